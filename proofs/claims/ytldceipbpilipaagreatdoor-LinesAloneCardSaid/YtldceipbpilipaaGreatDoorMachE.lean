/- The abstract machine: keys, code. -/
import Derived.LoopN
import Derived.Sort.Grow
import Derived.Test.YtldceipbpilipaaGreatDoorMachC
set_option linter.all false
namespace Go.Am
structure Stk (k:Nat) (X:Nat→Nat→Prop) (ρ:Places) (h:List Obj) (w:World) (ρ':Places) (h':List Obj) (w':World):Prop where
 rel:HRel X ρ' h' w'
 fr:Fr X ρ h w ρ' h' w'
 evo:Evo k ρ h ρ' h'
 le:k≤h'.length
section
variable {X:Nat→Nat→Prop} {ρ ρ' ρ'':Places} {h h' h'' h2:List Obj} {w w' w'':World} {k:Nat} {P:Program} {G:Nat→Option (List D)}
theorem Stk.refl (H:HRel X ρ h w) (hk:k≤h.length):Stk k X ρ h w ρ h w:=⟨H,Fr.refl _ _ _,Evo.refl _ _ _,hk⟩
theorem Stk.trans (a:Stk k X ρ h w ρ' h' w') (b:Stk k X ρ' h' w' ρ'' h'' w''):Stk k X ρ h w ρ'' h'' w'':=⟨b.rel,a.fr.trans b.fr,a.evo.trans b.evo,b.le⟩
theorem Stp.stk (a:Stp X ρ h w ρ' h' w') (H:HRel X ρ h w) (hk:k≤h.length):Stk k X ρ h w ρ' h' w':=⟨a.rel,a.fr,a.evo.mono hk,Nat.le_trans hk (a.evo.le H)⟩
theorem ren_evo1 {f:Nat→Option Nat} {o o1:Obj} (h1:Obj.ren f o=some o1) (r:Place):EvoObj o o1 r r:=by
 cases o with
 |box cs=>
  simp only[Obj.ren,Option.map_eq_some_iff]at h1
  obtain⟨cs1,hc1,rfl⟩:=h1
  exact⟨(mapM_get hc1).1,rfl⟩
 |arr _ _ _=>simp only[Obj.ren,Option.some.injEq]at h1;subst h1;exact EvoObj.refl _ _
 |siter _ _=>simp only[Obj.ren,Option.some.injEq]at h1;subst h1;exact EvoObj.refl _ _
 |miter m=>simp only[Obj.ren,Option.map_eq_some_iff]at h1;obtain⟨m',_,rfl⟩:=h1;simp[EvoObj]
 |map _=>simp only[Obj.ren,Option.some.injEq]at h1;subst h1;exact EvoObj.refl _ _
theorem drop_step (H:HRel X ρ h w) {ids r:List Nat} (hn:ids.Nodup) (ht:takeObjs h (place ids) ids=some h2) (hr:ids=List.range k++r):
 RenOk X X (place ids) ρ h (subPlaces ρ ids) h2∧Stk k X ρ h w (subPlaces ρ ids) h2 w:=by
 obtain⟨R,H2⟩:=sub_rel (Y:=X) H hn ht fun b j hX=> .inl hX
 obtain⟨t1,t2⟩:=takeObjs_spec ht
 have hsub: ∀ (id:Nat) (r:Place),(subPlaces ρ ids)[id]? =some r→ ∃i,ρ[i]? =some r:=fun id r hid=>by
  have hlt:id<h2.length:=by rw[t1];simpa[subPlaces]using lt_of_getElem? hid
  obtain⟨i,o,hi,ho,_⟩:=t2 id h2[id] (by simp[hlt])
  rw[sub_get H hi ho]at hid
  exact⟨i,hid⟩
 refine⟨R,H2,⟨rfl,rfl,rfl,Nat.le_refl _,fun b _ hno=>⟨rfl,fun id c hid=> ?_⟩,fun b j v hm hc=>⟨hc,fun hm'=>hm (R.mu b j hm')⟩⟩,fun id o r0 hid ho hr0=> ?_,by rw[t1,hr];simp⟩
 ·obtain⟨i,hi⟩:=hsub id _ hid
  exact hno i c hi
 ·have hget:ids[id]? =some id:=by rw[hr,List.getElem?_append_left (by simpa using hid),List.getElem?_range hid]
  have hlt:id<h2.length:=by rw[t1];exact lt_of_getElem? hget
  obtain⟨i,o',hi,ho',hren⟩:=t2 id h2[id] (by simp[hlt])
  rw[hget]at hi;cases hi
  rw[ho]at ho';cases ho'
  exact⟨h2[id],r0,by simp[hlt],by rw[sub_get H hget ho,hr0],ren_evo1 hren r0⟩
theorem keepSlots_sound {tmps:Array Value} {s:Slots}: ∀ (keep:List (Nat × Nat)) (ρ:Places) (h:List Obj),HRel X ρ h w→SRel X ρ h w tmps s→
 ∃ρ',Stp X ρ h w ρ' (keepSlots s h keep).2 w∧SRel X ρ' (keepSlots s h keep).2 w tmps (keepSlots s h keep).1
 |[],ρ,h,H,hs=>⟨ρ,Stp.refl H,fun t=>trivial⟩
 |(t,sz)::r,ρ,h,H,hs=>by
  unfold keepSlots
  split
  ·split
   ·rename_i sz' hv
    obtain⟨n1,n2⟩:=new_nil H (sz'+1)
    obtain⟨ρ',s1,r1⟩:=keepSlots_sound r _ _ n1.rel (hs.mono n1)
    refine⟨ρ',n1.trans H s1,fun t'=> ?_⟩
    simp only[sget]
    split
    ·rename_i e
     subst e
     have:=hs t
     rw[hv]at this
     have hv':tmps.getD t undef= .slice none 0 0:=this
     rw[hv']
     exact s1.vrel n2
    ·exact r1 t'
   ·obtain⟨ρ',s1,r1⟩:=keepSlots_sound r _ _ H hs
    refine⟨ρ',s1,fun t'=> ?_⟩
    simp only[sget]
    split
    ·rename_i e
     subst e
     exact s1.vrel (hs t)
    ·exact r1 t'
  ·split
   ·rename_i x h0 hp
    generalize t - 1000000=t0 at hp ⊢
    obtain⟨p1,p2⟩:=pureV_sound hp H (hs t0)
    obtain⟨ρ',s1,r1⟩:=keepSlots_sound r _ _ p1.rel (hs.mono p1)
    refine⟨ρ',p1.trans H s1,fun t'=> ?_⟩
    simp only[sget]
    split
    ·rename_i e
     subst e
     exact s1.vrel (show VRel X ρ h0 w (tmps.getD t0 undef) (.d x) from p2)
    ·exact r1 t'
   ·exact keepSlots_sound r _ _ H hs
theorem renSlots_sget {f:Nat→Option Nat}: ∀ {s s2:Slots} (_:renSlots f s=some s2) (t:Nat),V.ren f (sget s t)=some (sget s2 t)
 |[],s2,hr,t=>by simp[renSlots]at hr;subst hr;rfl
 |(i,v)::s,s2,hr,t=>by
  simp only[renSlots,List.mapM_cons,Option.bind_eq_bind,Option.bind_eq_some_iff,Option.map_eq_some_iff,Option.pure_def,Option.some.injEq]at hr
  obtain⟨p,⟨y,hy,rfl⟩,ys,hys,rfl⟩:=hr
  simp only[sget]
  split
  ·exact hy
  ·exact renSlots_sget hys t
theorem SRel.ren {X':Nat→Nat→Prop} {f:Nat→Option Nat} {ρ2:Places} {tmps:Array Value} {s s2:Slots} (R:RenOk X X' f ρ h ρ2 h2) (hs:SRel X ρ h w tmps s) (hr:renSlots f s=some s2):SRel X' ρ2 h2 w tmps s2:=
 fun t=>(hs t).ren R (renSlots_sget hr t)
theorem norm_sound {keep:List (Nat × Nat)} {s s2:Slots} {tmps:Array Value} (hx:norm k keep s h=some (s2,h2)) (H:HRel X ρ h w) (hs:SRel X ρ h w tmps s) (hk:k≤h.length):
 ∃ρ2,Stk k X ρ h w ρ2 h2 w∧SRel X ρ2 h2 w tmps s2:=by
 unfold norm at hx
 obtain⟨ρ1,s1,r1⟩:=keepSlots_sound keep ρ h H hs
 generalize keepSlots s h keep=p at*
 simp only at hx
 obtain⟨r,hr⟩:=reach_range p.2 k (p.1.flatMap fun q=>q.2.ids)
 have hn:(reach p.2 (addIds (List.range k) (p.1.flatMap fun q=>q.2.ids))).Nodup:=reach_nodup _ (addIds_nodup _ _ List.nodup_range)
 generalize reach p.2 (addIds (List.range k) (p.1.flatMap fun q=>q.2.ids))=ids at*
 split at hx
 ·rename_i s3 h3 e1 e2
  simp only[Option.some.injEq,Prod.mk.injEq]at hx
  obtain⟨rfl,rfl⟩:=hx
  obtain⟨R,st⟩:=drop_step s1.rel hn e2 hr
  exact⟨_,(s1.stk H hk).trans st,r1.ren R e1⟩
 ·cases hx
theorem freezeAll_sound: ∀ (s:Slots) (h:List Obj),HRel X ρ h w→Stp X ρ h w ρ (freezeAll h s) w
 |[],h,H=>Stp.refl H
 |(i,v)::s,h,H=>by
  simp only[freezeAll]
  split
  ·rename_i x h1 hp
   have:Stp X ρ h w ρ h1 w:=by
    cases v with
    |arr id n=>
     simp only[pure1]at hp
     split at hp
     ·rename_i sz xs wm ho
      split at hp
      ·simp only[Option.some.injEq,Prod.mk.injEq]at hp
       obtain⟨_,rfl⟩:=hp
       obtain⟨f1,f2,f3⟩:=step_freeze H ho
       exact⟨f1,f2,f3⟩
      ·cases hp
     ·cases hp
    |sl id tot off len=>
     simp only[pure1]at hp
     split at hp
     ·rename_i sz xs wm ho
      split at hp
      ·simp only[Option.some.injEq,Prod.mk.injEq]at hp
       obtain⟨_,rfl⟩:=hp
       obtain⟨f1,f2,f3⟩:=step_freeze H ho
       exact⟨f1,f2,f3⟩
      ·cases hp
     ·cases hp
    |emp=>simp only[pure1,Option.some.injEq,Prod.mk.injEq]at hp;obtain⟨_,rfl⟩:=hp;exact Stp.refl H
    |d x=>simp only[pure1,Option.some.injEq,Prod.mk.injEq]at hp;obtain⟨_,rfl⟩:=hp;exact Stp.refl H
    |nilS=>simp only[pure1,Option.some.injEq,Prod.mk.injEq]at hp;obtain⟨_,rfl⟩:=hp;exact Stp.refl H
    |_=>simp[pure1]at hp
   exact this.trans H (freezeAll_sound s h1 this.rel)
  ·exact freezeAll_sound s h H
def Out.exit':Out→Exit
 |.normal=> .normal
 |.exit i=> .exit i
 |.ret=> .ret
theorem St.stp {nt:Nat} {a:Act} {s:Slots} (S:St X G nt ρ h w a s) (st:Stp X ρ h w ρ' h' w'):St X G nt ρ' h' w' a s:=⟨st.rel,S.glob.mono st.fr,S.slots.mono st,S.size⟩
theorem seen_viewOf (ops:List Oper) (hint:List Nat) (s:Slots) (h:List Obj):Seen (viewOf ops hint s h) h:=by
 unfold viewOf
 split
 ·exact seen_maskD s h hint (seen_mask s hint (seen_view h))
 ·exact seen_nil h
theorem coolH_sound (s:Slots): ∀ (m:List Nat) {h:List Obj},HRel X ρ h w→Stp X ρ h w ρ (coolH s m h) w
 |[],_,H=>Stp.refl H
 |m::r,h,H=>by
  have ih:=coolH_sound s r H
  unfold coolH
  split
  ·split
   ·exact ih.trans H (coolAt_sound ih.rel _)
   ·exact ih
  ·exact ih
theorem view_length: ∀h:List Obj,(view h).length=h.length
 |[]=>rfl
 |.box _::h=>by simp[view,view_length h]
 |.arr _ _ _::h=>by simp[view,view_length h]
 |.siter _ _::h=>by simp[view,view_length h]
 |.miter _::h=>by simp[view,view_length h]
 |.map _ _ _::h=>by simp[view,view_length h]
theorem maskV_length (s:Slots): ∀ (m:List Nat) (l:List Obj),(maskV s m l).length=l.length
 |[],_=>rfl
 |m::r,l=>by
  have ih:=maskV_length s r l
  unfold maskV
  split
  ·split
   ·rw[List.length_set];exact ih
   ·exact ih
  ·exact ih
theorem maskIds_length: ∀ (m:List Nat) (l:List Obj),(maskIds m l).length=l.length
 |[],_=>rfl
 |m::r,l=>by unfold maskIds;rw[List.length_set];exact maskIds_length r l
theorem maskD_length (s:Slots) (h:List Obj): ∀ (m:List Nat) (l:List Obj),(maskD s h m l).length=l.length
 |[],_=>rfl
 |m::r,l=>by
  have ih:=maskD_length s h r l
  unfold maskD
  split
  ·rw[maskIds_length];exact ih
  ·exact ih
theorem mem_hintAllocs {ops:List Oper} {i:Nat}: ∀ {l:List Nat},i∈hintAllocs ops l↔i∈l∧isAllocAt ops i=true
 |[]=>by simp[hintAllocs]
 |j::r=>by
  have ih:=mem_hintAllocs (ops:=ops) (i:=i) (l:=r)
  unfold hintAllocs
  split
  ·rename_i hj
   rw[List.mem_cons,ih,List.mem_cons]
   constructor
   ·rintro (rfl | ⟨a,b⟩)
    ·exact⟨.inl rfl,hj⟩
    ·exact⟨.inr a,b⟩
   ·rintro ⟨rfl | a,b⟩
    ·exact .inl rfl
    ·exact .inr ⟨a,b⟩
  ·rename_i hj
   rw[ih,List.mem_cons]
   constructor
   ·rintro ⟨a,b⟩;exact⟨.inr a,b⟩
   ·rintro ⟨rfl | a,b⟩
    ·exact absurd b hj
    ·exact⟨a,b⟩
theorem hintLoads_alloc {ops:List Oper} {i:Nat} (ha:isAllocAt ops i=true): ∀ {l:List Nat},i∈l→hintLoads ops l=true
 |[],hi=>by cases hi
 |j::r,hi=>by
  unfold hintLoads
  rcases List.mem_cons.1 hi with rfl | hi
  ·unfold isAllocAt at ha
   cases ho:ops[i]? with
   |none=>rw[ho]at ha;cases ha
   |some o=>
    rw[ho]at ha
    unfold isAllocO at ha
    cases hop:o.op <;> simp_all
  ·rw[hintLoads_alloc ha hi,Bool.or_true]
theorem birthH_sound {ops:List Oper} {hint:List Nat} {s:Slots} {h1 h2:List Obj} (hb:birthH P ops hint h1=some h2) (H:HRel X ρ h1 w):
 ∃ρ2,Stp X ρ h1 w ρ2 h2 w∧(∀i,hint.contains i=true→isAllocAt ops i=true→Unb ρ2 h2 h1.length∧h1.length+1=(viewOf ops hint s h2).length)∧
  ∀i j,hint.contains i=true→isAllocAt ops i=true→hint.contains j=true→isAllocAt ops j=true→i=j:=by
 unfold birthH at hb
 split at hb
 ·rename_i he
  simp only[Option.some.injEq]at hb;subst hb
  have no: ∀i,hint.contains i=true→isAllocAt ops i=true→False:=fun i c1 c2=>by
   have:i∈hintAllocs ops hint:=mem_hintAllocs.2 ⟨by simpa using c1,c2⟩
   rw[he]at this
   cases this
  exact⟨ρ,Stp.refl H,fun i c1 c2=>(no i c1 c2).elim,fun i j c1 c2 _ _=>(no i c1 c2).elim⟩
 ·rename_i i0 he
  split at hb
  ·split at hb
   ·rename_i t ho
    cases hq:allocV P [] t with
    |none=>rw[hq]at hb;cases hb
    |some q=>
     rw[hq]at hb
     simp only[obind]at hb
     split at hb
     ·rename_i b _
      split at hb
      ·rename_i hfx
       simp only[Option.some.injEq]at hb;subst hb
       cases b with
       |box cs=>
        obtain⟨s1,s2,s3⟩:=step_push (w':=w) H (.box cs) none rfl rfl rfl (Nat.le_refl _) (fun _ _=>rfl) (fun b c e=>by cases e) fun _ _=>⟨fun _=>hfx,fun hne=>absurd rfl hne⟩
        have mem: ∀i,hint.contains i=true→isAllocAt ops i=true→i=i0:=fun i c1 c2=>by
         have:i∈hintAllocs ops hint:=mem_hintAllocs.2 ⟨by simpa using c1,c2⟩
         rw[he]at this
         simpa using this
        refine⟨_,⟨s1,s2,s3⟩,fun i c1 c2=>⟨⟨by rw[← H.len];simp,cs,by simp⟩, ?_⟩,fun i j c1 c2 d1 d2=>(mem i c1 c2).trans (mem j d1 d2).symm⟩
        unfold viewOf
        rw[if_pos (hintLoads_alloc c2 (by simpa using c1)),maskD_length,maskV_length,view_length]
        simp
       |_=>cases hfx
      ·cases hb
     ·cases hb
   ·cases hb
  ·cases hb
 ·cases hb
theorem regionV_sound {rd:Option Nat} {n:Nat} {run:Run} {rf:Bool} {nt:Nat} {ops:Array Oper} {hint:List Nat} {id:Nat} {draw:Bool} {Q:Exit→Act→World→Prop} (hm:P.follows .mixedOrders=true) (hrun:RunOk P G run) (hhas:RunHas P run)
 (hdst: ∀o∈ops.toList, ∀d,o.dst=some d→d<nt) (hd:draw=true→drawOk P hint ops.toList=true) {s s':Slots} {a:Act} {out:Out}
 (hr:regionV P G run rf hint ops.toList draw s h=some (out,s',h')) (S:St X G nt ρ h w a s)
 (hq: ∀ρ' a' w',Stp X ρ h w ρ' h' w'→St X G nt ρ' h' w' a' s'→a'.defers=a.defers→Q out.exit' a' w'):(Code.region id ops draw).wpIn (Fw rd) n P Q a w:=by
 unfold regionV at hr
 generalize hh0:(if (hasSlice ops.toList && !hasStore ops.toList && !rf)=true then freezeAll h ((roots ops.toList ops.toList).map fun t=>(t,sget s t)) else h)=h0 at hr
 generalize hh1:coolH s (if draw then hint else []) h0=h1 at hr
 have st:Stp X ρ h w ρ h1 w:=by
  have st0:Stp X ρ h w ρ h0 w:=by
   rw[← hh0]
   split
   ·exact freezeAll_sound _ h S.rel
   ·exact Stp.refl S.rel
  rw[← hh1]
  exact st0.trans S.rel (coolH_sound s _ st0.rel)
 cases hbi:birthH P ops.toList (if draw then hint else []) h1 with
 |none=>rw[hbi]at hr;cases hr
 |some hb=>
 rw[hbi]at hr
 have e0: ∀ (f:List Obj→Res),obind (some hb) f=f hb:=fun _=>rfl
 rw[e0]at hr
 obtain⟨ρ2,stb,hunb,huni⟩:=birthH_sound (s:=s) hbi st.rel
 have stt:=st.trans S.rel stb
 cases ho:opsV P G run ops.toList (if draw then hint else []) (viewOf ops.toList (if draw then hint else []) s hb) 0 ops.toList s hb with
 |none=>rw[ho]at hr;cases hr
 |some p=>
  obtain⟨s2,h2⟩:=p
  rw[ho]at hr
  simp only[obind,Option.some.injEq,Prod.mk.injEq]at hr
  obtain⟨rfl,rfl,rfl⟩:=hr
  exact region_sound hm hrun hhas hdst hd ho (S.stp stt) (seen_viewOf _ _ s hb) (fun e=>by unfold viewOf;rw[e];rfl) (st.evo.le S.rel) (Nat.le_trans (st.evo.le S.rel) (stb.evo.le st.rel)) (fun i c1 c2=>hunb i c1 c2) huni fun ρ' a' w' st'=>hq ρ' a' w' ((stt.stb (Nat.le_refl _)).trans st').stp
def NoPl (ρ:Places) (L:Nat):Prop:= ∀id c:Nat,ρ[id]? ≠some (some (L,c))
theorem Fr.off (f:Fr X ρ h w ρ' h' w') {L:Nat} {o:Go.Obj} (hL:w.heap[L]? =some o) (hn:NoPl ρ L):w'.heap[L]? =some o∧NoPl ρ' L:=
 let ⟨h1,h2⟩:=f.block L (Array.getElem?_eq_some_iff.1 hL).1 hn
 ⟨h1.trans hL,h2⟩
theorem cell_other {L:Nat} {o o':Go.Obj} (hL:w.heap[L]? =some o) (hc:o.isCells=false) (hc':o'.isCells=false) (b j:Nat):(w.putObj L o').cell? ⟨b,j,none⟩=w.cell? ⟨b,j,none⟩:=by
 unfold World.cell?
 by_cases e:b=L
 ·subst e
  rw[World.putObj_heap_same (Array.getElem?_eq_some_iff.1 hL).1,hL]
  cases o <;> simp_all [Go.Obj.isCells] <;> cases o' <;> simp_all [Go.Obj.isCells]
 ·rw[World.putObj_heap_other e]
theorem cell_new {o:Go.Obj} (hc:o.isCells=false) (b j:Nat):(w.alloc o).cell? ⟨b,j,none⟩=w.cell? ⟨b,j,none⟩:=by
 unfold World.cell?
 by_cases e:b=w.heap.size
 ·subst e
  rw[World.alloc_heap_new,Array.getElem?_eq_none (Nat.le_refl _)]
  cases o <;> simp_all [Go.Obj.isCells]
 ·show (match (w.heap.push o)[b]? with | some (Obj.cells c _ _)=>_ | _=>_)=_
  rw[Array.getElem?_push,if_neg e]
  rfl
structure Aside (ρ:Places) (B:Nat) (w w':World):Prop where
 os:w'.os=w.os
 tape:w'.tape=w.tape
 output:w'.output=w.output
 size:w.heap.size≤w'.heap.size
 cell: ∀b j,w'.cell? ⟨b,j,none⟩=w.cell? ⟨b,j,none⟩
 low: ∀b,b<B→w'.heap[b]? =w.heap[b]?
 at_: ∀id b c:Nat,ρ[id]? =some (some (b,c))→w'.heap[b]? =w.heap[b]?
theorem Aside.put {B L:Nat} {o o':Go.Obj} (hL:w.heap[L]? =some o) (hc:o.isCells=false) (hc':o'.isCells=false) (hn:NoPl ρ L) (hB:B≤L):Aside ρ B w (w.putObj L o'):=
 ⟨rfl,rfl,rfl,by simp,cell_other hL hc hc',fun b hb=>World.putObj_heap_other (by omega),fun id b c e=>World.putObj_heap_other fun e'=>hn id c (e' ▸ e)⟩
theorem Aside.new {o:Go.Obj} (H:HRel X ρ h w) (hc:o.isCells=false) {B:Nat} (hB:B≤w.heap.size):Aside ρ B w (w.alloc o):=by
 have hb: ∀b,b<w.heap.size→(w.alloc o).heap[b]? =w.heap[b]? :=fun b hb=>RowKit.Below.heap_alloc w o b hb
 exact⟨rfl,rfl,rfl,by simp,cell_new hc,fun b h=>hb b (by omega),fun id b c e=>hb b (H.lt e)⟩
theorem Aside.draw (n B:Nat):Aside ρ B w { w with drawn:=n }:=⟨rfl,rfl,rfl,Nat.le_refl _,fun _ _=>rfl,fun _ _=>rfl,fun _ _ _ _=>rfl⟩
theorem Aside.trans {B:Nat} (A:Aside ρ B w w') (A':Aside ρ B w' w''):Aside ρ B w w'':=
 ⟨A'.os.trans A.os,A'.tape.trans A.tape,A'.output.trans A.output,Nat.le_trans A.size A'.size,fun b j=>(A'.cell b j).trans (A.cell b j),fun b hb=>(A'.low b hb).trans (A.low b hb),fun id b c e=>(A'.at_ id b c e).trans (A.at_ id b c e)⟩
theorem Aside.imm {B:Nat} (A:Aside ρ B w w'):Imm X ρ h w ρ h w':=fun b j v hm hc=>⟨(A.cell b j).trans hc,hm⟩
theorem Aside.rel {B:Nat} (A:Aside ρ B w w') (H:HRel X ρ h w):HRel X ρ h w' where
 len:=H.len
 obj:=fun id o ho=>let ⟨r,h1,h2⟩:=H.obj id o ho;⟨r,h1,h2.ikept A.imm (Evo.refl _ _ _) fun b c e=>A.at_ id b c (e ▸ h1)⟩
 xlt:=fun b j hx=>Nat.lt_of_lt_of_le (H.xlt b j hx) A.size
 xown:=H.xown
 inj:=H.inj
theorem Aside.stk {w0:World} {ρ0:Places} {h0:List Obj} (A:Aside ρ w0.heap.size w w') (S:Stk k X ρ0 h0 w0 ρ h w):Stk k X ρ0 h0 w0 ρ h w':=
 ⟨A.rel S.rel,⟨A.os.trans S.fr.os,A.tape.trans S.fr.tape,A.output.trans S.fr.output,Nat.le_trans S.fr.size A.size,
   fun b hb hn=>let ⟨h1,h2⟩:=S.fr.block b hb hn;⟨(A.low b hb).trans h1,h2⟩,
   fun b j v hm hc=>let ⟨h1,h2⟩:=S.fr.imm b j v hm hc;⟨(A.cell b j).trans h1,h2⟩⟩,S.evo,S.le⟩
def MarksOk (ρ:Places) (N:Nat) (w:World) (ds:List Deferred):Prop:=
 ∃Ds:List Nat,ds=Ds.map (fun D=> { target:= .collected D,args:= #[] })∧Ds.Nodup∧ ∀D∈Ds,N≤D∧w.heap[D]? =some (.deferred (some []))∧NoPl ρ D
theorem MarksOk.fr {N:Nat} {ds:List Deferred} (m:MarksOk ρ N w ds) (f:Fr X ρ h w ρ' h' w'):MarksOk ρ' N w' ds:=
 let ⟨Ds,h1,h2,h3⟩:=m
 ⟨Ds,h1,h2,fun D hD=>let ⟨h4,h5,h6⟩:=h3 D hD;⟨h4,f.off h5 h6⟩⟩
structure StM (N:Nat) (X:Nat→Nat→Prop) (G:Nat→Option (List D)) (nt:Nat) (ρ:Places) (h:List Obj) (w:World) (a:Act) (s:Slots):Prop where
 st:St X G nt ρ h w a s
 marks:MarksOk ρ N w a.defers
 le:N≤w.heap.size
theorem GRel.aside {B:Nat} (A:Aside ρ B w w') (g:GRel X G ρ h w):GRel X G ρ h w':=⟨fun i cs e=>(g.ro i cs e).mono A.imm,fun i cs e h1 h2=>by
 obtain⟨k1,k2,k3⟩:=g.whole i cs e h1 h2
 exact⟨Nat.lt_of_lt_of_le k1 A.size,k2,(A.cell _ _).trans k3⟩⟩
theorem SRel.aside {B:Nat} {tmps:Array Value} {s:Slots} (A:Aside ρ B w w') (g:SRel X ρ h w tmps s):SRel X ρ h w' tmps s:=fun t=>(g t).imono A.imm (Evo.refl _ _ _)
theorem St.aside {B nt:Nat} {a:Act} {s:Slots} (A:Aside ρ B w w') (S:St X G nt ρ h w a s):St X G nt ρ h w' a s:=⟨A.rel S.rel,S.glob.aside A,S.slots.aside A,S.size⟩
def Owes (k N:Nat) (X:Nat→Nat→Prop) (G:Nat→Option (List D)) (nt:Nat) (ρ:Places) (h:List Obj) (w:World) (r:Out × Slots × List Obj) (Q:Exit→Act→World→Prop):Prop:=
 ∀ρ' a' w',Stk k X ρ h w ρ' r.2.2 w'→StM N X G nt ρ' r.2.2 w' a' r.2.1→Q r.1.exit' a' w'
theorem Owes.step {N nt:Nat} {w1:World} {ρ1:Places} {h1:List Obj} {r:Out × Slots × List Obj} {Q:Exit→Act→World→Prop} (hq:Owes k N X G nt ρ h w r Q) (st:Stk k X ρ h w ρ1 h1 w1):
 Owes k N X G nt ρ1 h1 w1 r Q:=fun ρ' a' w' st' S'=>hq ρ' a' w' (st.trans st') S'
def Does (k:Nat) (P:Program) (X:Nat→Nat→Prop) (G:Nat→Option (List D)) (nt:Nat) (rd:Option Nat) (c:Code) (f:Slots→List Obj→Res):Prop:=
 ∀ (n N:Nat) (ρ:Places) (s:Slots) (h:List Obj) (a:Act) (w:World) (r:Out × Slots × List Obj) (Q:Exit→Act→World→Prop),f s h=some r→StM N X G nt ρ h w a s→k≤h.length→
  Owes k N X G nt ρ h w r Q→c.wpIn (Fw rd) n P Q a w
theorem loop_does {nt:Nat} {rd:Option Nat} {c:Code} {f:Slots→List Obj→Res} (hc:Does k P X G nt rd c f): ∀m,Does k P X G nt rd (.loop c) (iter f m):=by
 intro m n N ρ s h a w r Q hr S hk hq
 refine wpIn_loop_rounds m ?_
 induction m generalizing ρ s h a w r with
 |zero=>simp[iter]at hr
 |succ m ih=>
  show c.wpIn (Fw rd) n P _ a w
  simp only[iter]at hr
  cases hf:f s h with
  |none=>rw[hf]at hr;cases hr
  |some q=>
   refine hc n N ρ s h a w q _ hf S hk fun ρ1 a1 w1 st S1=> ?_
   rw[hf]at hr
   obtain⟨o,s1,h1⟩:=q
   cases o with
   |normal=>exact ih ρ1 s1 h1 a1 w1 r hr S1 st.le (hq.step st)
   |exit i=>simp only[onNormal,Option.some.injEq]at hr;subst hr;exact hq ρ1 a1 w1 st S1
   |ret=>simp only[onNormal,Option.some.injEq]at hr;subst hr;exact hq ρ1 a1 w1 st S1
theorem chunkL_spec (n:Nat) (hn:0<n): ∀ (m:Nat) (xs:List D),xs.length≤m→
 xs.length≤(chunkL n m xs).length*n∧(chunkL n m xs).length*n<xs.length+n∧ ∀i,i<(chunkL n m xs).length→(chunkL n m xs)[i]? =some ((xs.drop (i*n)).take n)
 |0,xs,h=>by
  have:xs=[]:=List.eq_nil_of_length_eq_zero (by omega)
  subst this
  exact⟨by simp,by simpa[chunkL]using hn,fun i hi=>by simp[chunkL]at hi⟩
 |m+1,[],h=>⟨by simp,by simpa[chunkL]using hn,fun i hi=>by simp[chunkL]at hi⟩
 |m+1,x::xs,h=>by
  obtain⟨h1,h2,h3⟩:=chunkL_spec n hn m ((x::xs).drop n) (by simp only[List.length_drop,List.length_cons]at h ⊢;omega)
  rw[List.length_drop]at h1 h2
  simp only[chunkL]
  generalize chunkL n m ((x::xs).drop n)=l at h1 h2 h3
  simp only[List.length_cons,Nat.add_mul,Nat.one_mul]at h1 h2 ⊢
  refine⟨by omega, ?_,fun i hi=> ?_⟩
  ·rcases Nat.lt_or_ge xs.length n with c | c
   ·have:l.length=0:=by
     rcases Nat.eq_zero_or_pos l.length with e | e
     ·exact e
     ·have:=Nat.mul_le_mul_right n e
      omega
    rw[this];omega
   ·omega
  ·cases i with
   |zero=>simp
   |succ i=>
    rw[List.getElem?_cons_succ,h3 i (by omega),List.drop_drop]
    have e:n+i*n=(i+1)*n:=by rw[Nat.add_mul,Nat.one_mul,Nat.add_comm]
    rw[e]
def chunkVal (ad:Option Addr) (n len i:Nat):Value:=
 match ad with
 |some p=> .slice (some ⟨p.block,p.off+i*n,none⟩) (min n (len - i*n):Nat) (min n (len - i*n):Nat)
 |none=>undef
def ChunkOk (P:Program) (g:FuncId):Prop:=
 (∀args w,(callFunc g args).run P w= .ok (.enter g args) w)∧
 ∀ (l b1 b2 n m len cap:Nat) (ad:Option Addr) (J:Nat→World→Prop) (Jx:World→Prop) (W:World),0<n→n≤65536→len≤65536→len≤m*n→m*n<len+n→len≤cap→
  (0<len→ ∃b off,ad=some ⟨b,off,none⟩)→
  (∀i W,J i W→W.cell? ⟨b1,0,none⟩=some (.slice ad len cap)∧W.cell? ⟨b2,0,none⟩=some (.int .i64 n))→(∀i W k,J i W→J i { W with drawn:=k })→
  (∀i W1,i<m→J i W1→YieldAt (Fw none) 7 P l #[chunkVal ad n len i] W1 fun e W'=>(e= .returned (.bool true)∧J (i+1) W')∨(e= .returned (.bool false)∧Jx W'))→J 0 W→
  CallsIn (Fw none) 8 P g #[.func (.yield l) #[] #[],.pointer (some ⟨b1,0,none⟩),.pointer (some ⟨b2,0,none⟩)] W fun e W'=>(∃v,e= .returned v)∧(J m W'∨Jx W')
theorem rep_chunk {M:Nat→Nat→Prop} {v:Value} {xs:List D} (hr:Rep M w v (.list xs)) (h1:allSize 1 xs=true):
 ∃ (ad:Option Addr) (cap:Nat),v= .slice ad xs.length cap∧(0<xs.length→ ∃b off,ad=some ⟨b,off,none⟩)∧xs.length≤cap∧
  ∀ (M':Nat→Nat→Prop) (w':World),(∀ (b j:Nat) (v:Value),¬ M b j→w.cell? ⟨b,j,none⟩=some v→w'.cell? ⟨b,j,none⟩=some v∧ ¬ M' b j)→
   ∀i n,0<n→i*n<xs.length→Rep M' w' (chunkVal ad n xs.length i) (.list ((xs.drop (i*n)).take n)):=by
 have hs:=allSize_spec h1
 cases hr with
 |nil a c hac=>exact⟨a,c,rfl,fun h=>by simp at h,Nat.zero_le _,fun M' w' _ i n _ h=>by simp at h⟩
 |list b off len cap sz _ vs e1 e2 e3 e4 e5=>
  subst e1
  refine⟨_,cap,rfl,fun _=>⟨b,off,rfl⟩,e2,fun M' w' hi i n hn hlt=> ?_⟩
  have hl:((xs.drop (i*n)).take n).length=min n (xs.length - i*n):=by simp
  have hc: ∀ (j:Nat) (c:D),(flat ((xs.drop (i*n)).take n))[j]? =some c→(flat xs)[i*n+j]? =some c:=fun j c hj=>by
   obtain⟨-,g1⟩:=flat_take hs (Nat.le_of_lt hlt)
   rw[Nat.mul_one]at g1
   have g2:flat (xs.drop (i*n))=flat ((xs.drop (i*n)).take n)++flat ((xs.drop (i*n)).drop n):=by rw[← flat_append,List.take_append_drop]
   rw[← List.getElem?_drop,← g1,g2,List.getElem?_append_left (lt_of_getElem? hj)]
   exact hj
  show Rep M' w' (.slice (some ⟨b,off+i*n,none⟩) (min n (xs.length - i*n):Nat) (min n (xs.length - i*n):Nat)) _
  refine .list b (off+i*n) _ _ 1 _ (fun j=>vs (i*n+j)) hl.symm (Nat.le_refl _) (fun x hx=>hs x (List.mem_of_mem_drop (List.mem_of_mem_take hx))) (fun j c hj=> ?_) fun j c hj=>(e5 _ c (hc j c hj)).mono hi
  obtain⟨k1,k2,k3⟩:=e4 _ c (hc j c hj)
  rw[Nat.add_assoc]
  exact⟨(hi _ _ _ k2 k1).1,(hi _ _ _ k2 k1).2,k3⟩
theorem loose_spec {keep:List (Nat × Nat)} {s s2:Slots} (hn:norm k keep s h=some (s2,h2)) (H:HRel X ρ h w) {tmps:Array Value} (hs:SRel X ρ h w tmps s) (hk:k≤h.length):
 ∃ρ2,Stk k X ρ h w ρ2 h2 w∧SRel X ρ2 h2 w tmps s2∧ ∀ (i b c:Nat) (cs:List V),loose k keep s h i=true→h[i]? =some (.box cs)→ρ[i]? =some (some (b,c))→NoPl ρ2 b:=by
 unfold norm at hn
 unfold loose
 obtain⟨ρ1,s1,r1⟩:=keepSlots_sound keep ρ h H hs
 generalize keepSlots s h keep=p at*
 simp only at hn ⊢
 obtain⟨r,hr⟩:=reach_range p.2 k (p.1.flatMap fun q=>q.2.ids)
 have hnd:(reach p.2 (addIds (List.range k) (p.1.flatMap fun q=>q.2.ids))).Nodup:=reach_nodup _ (addIds_nodup _ _ List.nodup_range)
 generalize reach p.2 (addIds (List.range k) (p.1.flatMap fun q=>q.2.ids))=ids at*
 split at hn
 ·rename_i s3 h3 e1 e2
  simp only[Option.some.injEq,Prod.mk.injEq]at hn
  obtain⟨rfl,rfl⟩:=hn
  obtain⟨R,st⟩:=drop_step s1.rel hnd e2 hr
  refine⟨_,(s1.stk H hk).trans st,r1.ren R e1,fun i b c cs hl ho hi id c' e=> ?_⟩
  obtain⟨o',r',k1,k2,k3⟩:=s1.evo i _ _ (lt_of_getElem? ho) ho hi
  have k4:r'=some (b,c):=by
   cases o' with
   |box cs'=>exact k3.2
   |_=>exact k3.elim
  subst k4
  have e': ∃i',ids[id]? =some i'∧ρ1[i']? =some (some (b,c')):=by
   simp only[subPlaces,List.getElem?_map,Option.map_eq_some_iff]at e
   obtain⟨i',g1,g2⟩:=e
   refine⟨i',g1, ?_⟩
   cases g3:ρ1[i']? with
   |none=>rw[g3]at g2;cases g2
   |some r=>rw[g3]at g2;exact congrArg some g2
  obtain⟨i',g1,g2⟩:=e'
  have:=s1.rel.inj i' i b c' c g2 k2
  subst this
  simp only[Bool.not_eq_true',List.contains_eq_mem,decide_eq_false_iff_not]at hl
  exact hl (List.mem_of_getElem? g1)
 ·cases hn
theorem iterV_some {f:V} {it:Nat × Nat × List (List D)} (hi:iterV G h f=some it): ∃ (g i j:Nat) (xs:List D) (n:Int),f= .clo g [.ptr i 0,.ptr j 0]∧chunks G g=true∧h[i]? =some (.box [.d (.list xs)])∧
 h[j]? =some (.box [.d (.int .i64 n)])∧0<n∧n≤65536∧xs.length≤65536∧allSize 1 xs=true∧it=(i,j,chunkL n.toNat xs.length xs):=by
 unfold iterV at hi
 split at hi
 ·rename_i g i j
  split at hi
  ·rename_i hc
   split at hi
   ·rename_i xs n h1 h2
    split at hi
    ·rename_i hcond
     simp only[Option.some.injEq]at hi
     exact⟨g,i,j,xs,n,rfl,hc,h1,h2,hcond.1,hcond.2.1,hcond.2.2.1,hcond.2.2.2,hi.symm⟩
    ·cases hi
   ·cases hi
  ·cases hi
 ·cases hi
theorem box_cell (H:HRel X ρ h w) {i b c:Nat} {x:V} (ho:h[i]? =some (.box [x])) (hp:ρ[i]? =some (some (b,c))): ∃v,w.cell? ⟨b,0,none⟩=some v∧V1 X ρ h w v x:=by
 obtain⟨r,k1,k2⟩:=H.obj i _ ho
 rw[hp]at k1
 cases k1
 obtain⟨b',c',cur,e,fz,e1,e2,e3,-,e5⟩:=k2.2 (by simp)
 cases e1
 obtain⟨u,g1,g2,-⟩:=e5 0 x rfl
 exact⟨u,by rw[cell_of_heap e2];exact g1,g2⟩
def Out.code:Out→Code
 |.exit i=> .exit i
 |_=> .ret
theorem range_does {run:Run} {K:Keeps} {Sh:Hints} {F:FuncId} {nt b0:Nat} {loopI:(Slots→List Obj→Res)→Slots→List Obj→Res} (hit: ∀g,chunks G g=true→ChunkOk P g) {f:Operand} {ps:Array Tmp} {x y:Code} {keep:List (Nat × Nat)} {p:Nat}
 (hx: ∀l k,Does k P X G nt (some l) x (codeV P G K Sh run loopI F k b0 x)) (hy: ∀l k,Does k P X G nt (some l) y (codeV P G K Sh run loopI F k b0 y)) (hp:ps.toList=[p]) (hlt:p<nt):
 Does k P X G nt none (.rangeFunc f ps x y) fun s h=>obind (iterV G h (ev G s f)) fun it=>if loose k keep s h it.1 && loose k keep s h it.2.1 then
  obind (norm k keep s h) fun q=>rangeV (fun z s h=>
   match codeV P G K Sh run loopI F h.length b0 x ((p,.d (.list z))::s) h with
   |some (.normal,s1,h1)=>codeV P G K Sh run loopI F h.length b0 y s1 h1
   |_=>none) k keep it.2.2 q.1 q.2
  else none:=by
 obtain rfl:ps= #[p]:=Array.ext' hp
 intro n N ρ s h a w r Q hr S hk hq
 replace hr:(obind (iterV G h (ev G s f)) fun it=>if loose k keep s h it.1 && loose k keep s h it.2.1 then
  obind (norm k keep s h) fun q=>rangeV (fun z s h=>
   match codeV P G K Sh run loopI F h.length b0 x ((p,.d (.list z))::s) h with
   |some (.normal,s1,h1)=>codeV P G K Sh run loopI F h.length b0 y s1 h1
   |_=>none) k keep it.2.2 q.1 q.2
  else none)=some r:=hr
 obtain⟨round,hround⟩: ∃round:List D→Slots→List Obj→Res,round=fun z s h=>
        match codeV P G K Sh run loopI F h.length b0 x ((p,.d (.list z))::s) h with
        |some (.normal,s1,h1)=>codeV P G K Sh run loopI F h.length b0 y s1 h1
        |_=>none:=⟨_,rfl⟩
 rw[← hround]at hr
 cases hi:iterV G h (ev G s f) with
 |none=>rw[hi]at hr;cases hr
 |some it=>
  rw[hi]at hr
  obtain⟨g,i,j,xs,nn,hf,hg,ho1,ho2,hn0,hn1,hlen,hsz,rfl⟩:=iterV_some hi
  simp only[obind]at hr
  split at hr
  ·rename_i hlo
   simp only[Bool.and_eq_true]at hlo
   cases hnm:norm k keep s h with
   |none=>rw[hnm]at hr;cases hr
   |some q=>
    obtain⟨s0,h0⟩:=q
    rw[hnm]at hr
    simp only at hr
    obtain⟨nk,rfl⟩: ∃nk:Nat,nn=nk:=⟨nn.toNat,by omega⟩
    rw[Int.toNat_natCast]at hr
    obtain⟨ρ0,st0,sr0,np0⟩:=loose_spec hnm S.st.rel S.st.slots hk
    have hv:=ev_rel S.st.glob S.st.slots f
    rw[hf]at hv
    obtain⟨us,hfv,hus,hc⟩:=hv
    obtain⟨u1,hu1,o1,b1,c1,-,-,e3,rfl⟩:=hc 0 (.ptr i 0) rfl
    obtain⟨u2,hu2,o2,b2,c2,-,-,e6,rfl⟩:=hc 1 (.ptr j 0) rfl
    have hus':us= #[.pointer (some ⟨b1,0,none⟩),.pointer (some ⟨b2,0,none⟩)]:=by
     apply Array.ext
     ·simpa using hus
     ·intro t ht1 ht2
      have:t=0∨t=1:=by simp at ht2;omega
      rcases this with rfl | rfl
      ·rw[Array.getElem?_eq_getElem ht1]at hu1;simpa using hu1
      ·rw[Array.getElem?_eq_getElem ht1]at hu2;simpa using hu2
    subst hus'
    obtain⟨v1,hc1,r1⟩:=box_cell S.st.rel ho1 e3
    obtain⟨v2,hc2,r2⟩:=box_cell S.st.rel ho2 e6
    have r2':Rep (Mut X ρ h) w v2 (.int .i64 nk):=r2
    cases r2'
    have r1':Rep (Mut X ρ h) w v1 (.list xs):=r1
    obtain⟨ad,cap,rfl,had,hcap,hsub⟩:=rep_chunk r1' hsz
    have hnk:0<nk:=by omega
    obtain⟨sp1,sp2,sp3⟩:=chunkL_spec nk hnk xs.length xs (Nat.le_refl _)
    have nb1:=np0 i b1 c1 _ hlo.1 ho1 e3
    have nb2:=np0 j b2 c2 _ hlo.2 ho2 e6
    obtain⟨eg,hco⟩:=hit g hg
    refine wpIn_rangeFunc fun fn _=> ?_
    show ∃ (l:Nat) (mark:List Deferred) (w₁:World) (d:Deferred) (w₁':World) (f':FuncId) (args:Array Value) (w₂:World),(Instr.enterLoop fn a.tmps #[p] x y none).run P w= .ok (l,mark) w₁∧_
    obtain⟨rec,hrec⟩: ∃rec:LoopState→Option Code→Loop,rec=fun st pe=> { state:=st,pending:=pe,fn,tmps:=a.tmps,params:= #[p],assign:=x,body:=y,defers:=w.heap.size }:=⟨_,rfl⟩
    obtain⟨W1,hW1⟩: ∃W1,(w.alloc (.deferred (some []))).alloc (.loop (rec .ready none))=W1:=⟨_,rfl⟩
    have hL1:W1.heap[w.heap.size+1]? =some (.loop (rec .ready none)):=by
     rw[← hW1];have:=World.alloc_heap_new (w.alloc (.deferred (some []))) (.loop (rec .ready none));rwa [World.size_alloc]at this
    have hK1:W1.heap[w.heap.size]? =some (.deferred (some [])):=by
     rw[← hW1];exact (RowKit.Below.heap_alloc _ _ _ (by simp)).trans (World.alloc_heap_new w _)
    have hbk1: ∃o,w.heap[b1]? =some o:=⟨_,Array.getElem?_eq_getElem (S.st.rel.lt e3)⟩
    have hbk2: ∃o,w.heap[b2]? =some o:=⟨_,Array.getElem?_eq_getElem (S.st.rel.lt e6)⟩
    obtain⟨ob1,hob1⟩:=hbk1
    obtain⟨ob2,hob2⟩:=hbk2
    have A1:Aside ρ0 w.heap.size w W1:=by
     rw[← hW1]
     exact (Aside.new st0.rel rfl (Nat.le_refl _)).trans (Aside.new ((Aside.new st0.rel (o:= .deferred (some [])) rfl (Nat.le_refl _)).rel st0.rel) rfl (by simp))
    have hfresh: ∀B,w.heap.size≤B→NoPl ρ0 B:=fun B hB id c e=>by have:=st0.rel.lt e;omega
    obtain⟨Lr,hLr⟩: ∃Lr,Lr=w.heap.size+1:=⟨_,rfl⟩
    obtain⟨Dm,hDm⟩: ∃Dm,Dm=w.heap.size:=⟨_,rfl⟩
    rw[← hLr]at hL1
    rw[← hDm]at hK1
    generalize hcs:chunkL nk xs.length xs=cs at hr sp1 sp2 sp3
    obtain⟨J,hJ⟩: ∃J:Nat→World→Prop,J=fun i W=> ∃ρ1 s1 h1,rangeV round k keep (cs.drop i) s1 h1=some r∧Stk k X ρ h w ρ1 h1 W∧St X G nt ρ1 h1 W a s1∧(NoPl ρ1 b1∧W.heap[b1]? =some ob1)∧(NoPl ρ1 b2∧W.heap[b2]? =some ob2)∧
     (NoPl ρ1 Lr∧W.heap[Lr]? =some (.loop (rec .ready none)))∧(NoPl ρ1 Dm∧W.heap[Dm]? =some (.deferred (some []))):=⟨_,rfl⟩
    obtain⟨Jx,hJx⟩: ∃Jx:World→Prop,Jx=fun W=> ∃o s1 h1 ρ1,r=(o,s1,h1)∧o≠ .normal∧Stk k X ρ h w ρ1 h1 W∧St X G nt ρ1 h1 W a s1∧(NoPl ρ1 Lr∧W.heap[Lr]? =some (.loop (rec .done (some o.code))))∧(NoPl ρ1 Dm∧W.heap[Dm]? =some (.deferred (some []))):=⟨_,rfl⟩
    have hJ0:J 0 W1:=by
     rw[hJ]
     refine⟨ρ0,s0,h0,by simpa using hr,A1.stk st0,⟨A1.rel st0.rel,(S.st.glob.mono st0.fr).aside A1,sr0.aside A1,S.st.size⟩,⟨nb1, ?_⟩,⟨nb2, ?_⟩,⟨hfresh _ (by omega),hL1⟩,⟨hfresh _ (by omega),hK1⟩⟩
     ·rw[A1.low _ (S.st.rel.lt e3)];exact hob1
     ·rw[A1.low _ (S.st.rel.lt e6)];exact hob2
    have hcell: ∀i W,J i W→W.cell? ⟨b1,0,none⟩=some (.slice ad xs.length cap)∧W.cell? ⟨b2,0,none⟩=some (.int .i64 nk):=fun i W hj=>by
     rw[hJ]at hj
     obtain⟨ρ1,s1,h1,-,-,-,⟨-,g1⟩,⟨-,g2⟩,-⟩:=hj
     exact⟨(World.cell?_of_block (a:=⟨b1,0,none⟩) (g1.trans hob1.symm)).trans hc1,(World.cell?_of_block (a:=⟨b2,0,none⟩) (g2.trans hob2.symm)).trans hc2⟩
    have hdraw: ∀i W n,J i W→J i { W with drawn:=n }:=fun i W n hj=>by
     rw[hJ]at hj ⊢
     obtain⟨ρ1,s1,h1,g1,g2,g3,g4,g5,g6,g7⟩:=hj
     exact⟨ρ1,s1,h1,g1,(Aside.draw n _).stk g2,g3.aside (Aside.draw (ρ:=ρ1) n 0),g4,g5,g6,g7⟩
    have hcall:CallsIn (Fw none) 8 P g #[.func (.yield Lr) #[] #[],.pointer (some ⟨b1,0,none⟩),.pointer (some ⟨b2,0,none⟩)] W1 fun e W'=>(∃v,e= .returned v)∧(J cs.length W'∨Jx W'):=by
     refine hco Lr b1 b2 nk cs.length xs.length cap ad J Jx W1 hnk (by omega) hlen sp1 sp2 hcap had hcell hdraw (fun i W hlt' hj=> ?_) hJ0
     rw[hJ]at hj
     obtain⟨ρ1,s1,h1,g1,g2,g3,⟨n1,k1⟩,⟨n2,k2⟩,⟨n3,k3⟩,⟨n4,k4⟩⟩:=hj
     have hik:i*nk<xs.length:=by
      have:=Nat.mul_le_mul_right nk (show i+1≤cs.length from hlt')
      rw[Nat.add_mul,Nat.one_mul]at this
      omega
     have hz:=sp3 i hlt'
     generalize hzz:(xs.drop (i*nk)).take nk=z at hz
     have hdr:cs.drop i=z::cs.drop (i+1):=by
      rw[List.getElem?_eq_getElem hlt',Option.some.injEq]at hz
      rw[List.drop_eq_getElem_cons hlt',hz]
     rw[hdr]at g1
     have hrep:VRel X ρ1 h1 W (chunkVal ad nk xs.length i) (.d (.list z)):=by
      have:=hsub (Mut X ρ1 h1) W g2.fr.imm i nk hnk hik
      rw[hzz]at this
      exact this
     have hy0:=run_yield (P:=P) (args:= #[chunkVal ad nk xs.length i]) k3 (by rw[hrec];rfl)
     rw[hrec]at hy0
     refine⟨_,_,_,_,hy0,roundIn_of_wpIn trivial ?_⟩
     have htm:((#[p]:Array Tmp).zip #[chunkVal ad nk xs.length i]).foldl (fun tmps (t,a)=>tmps.setIfInBounds t a) a.tmps=a.tmps.setIfInBounds p (chunkVal ad nk xs.length i):=by simp
     have S1:StM 0 X G nt ρ1 h1 W { tmps:=((#[p]:Array Tmp).zip #[chunkVal ad nk xs.length i]).foldl (fun tmps (t,a)=>tmps.setIfInBounds t a) a.tmps,defers:=[] } ((p,.d (.list z))::s1):=by
      rw[htm]
      refine⟨⟨g3.rel,g3.glob,fun t=> ?_,by simpa using g3.size⟩,⟨[],rfl,List.nodup_nil,fun _ h=>by cases h⟩,Nat.zero_le _⟩
      simp only[sget]
      rw[getD_set (by rw[g3.size];exact hlt)]
      split
      ·exact hrep
      ·exact g3.slots t
     simp only[rangeV]at g1
     cases hrd:round z s1 h1 with
     |none=>rw[hrd]at g1;cases g1
     |some rr=>
      obtain⟨o,s3,h3⟩:=rr
      rw[hrd]at g1
      have hrd':=hrd
      rw[hround]at hrd'
      simp only at hrd'
      cases hcx:codeV P G K Sh run loopI F h1.length b0 x ((p,.d (.list z))::s1) h1 with
      |none=>rw[hcx]at hrd';cases hrd'
      |some rx=>
       obtain⟨ox,s2,h2⟩:=rx
       rw[hcx]at hrd'
       cases ox with
       |exit _=>cases hrd'
       |ret=>cases hrd'
       |normal=>
        simp only at hrd'
        refine hx Lr h1.length _ 0 ρ1 _ h1 _ W _ _ hcx S1 (Nat.le_refl _) fun ρ2 a2 W2 stx S2=> ?_
        obtain⟨k3',n3'⟩:=stx.fr.off k3 n3
        obtain⟨k4',n4'⟩:=stx.fr.off k4 n4
        obtain⟨k1',n1'⟩:=stx.fr.off k1 n1
        obtain⟨k2',n2'⟩:=stx.fr.off k2 n2
        have stA:Stk k X ρ h w ρ2 h2 W2:=g2.trans ⟨stx.rel,stx.fr,stx.evo.mono g2.le,Nat.le_trans g2.le stx.le⟩
        refine⟨_,run_beginRound k3' (by rw[hrec]), ?_⟩
        have hne: ∀D,w.heap.size≠D→D≠Dm:=fun D e e'=>e (by omega)
        obtain⟨W2',hW2'⟩: ∃W2',W2.putObj Lr (.loop { rec .ready none with state:= .busy })=W2':=⟨_,rfl⟩
        have Ab:Aside ρ2 w.heap.size W2 W2':=by rw[← hW2'];exact Aside.put k3' rfl rfl n3' (by omega)
        have hoth: ∀ (B:Nat) (o:Go.Obj),W2.heap[B]? =some o→B≠Lr→W2'.heap[B]? =some o:=fun B o hB hne=>by rw[← hW2',World.putObj_heap_other hne];exact hB
        have hLb:W2'.heap[Lr]? =some (.loop { rec .ready none with state:= .busy }):=by rw[← hW2'];exact World.putObj_heap_same (Array.getElem?_eq_some_iff.1 k3').1
        rw[hW2']
        have hltL: ∀ {b c id:Nat},ρ[id]? =some (some (b,c))→b≠Lr:=fun e e'=>by have:=S.st.rel.lt e;omega
        have hmk:MarksOk ρ2 0 W2' a2.defers:=by
         obtain⟨Ds,d1,d2,d3⟩:=S2.marks
         refine⟨Ds,d1,d2,fun D hD=> ?_⟩
         obtain⟨d4,d5,d6⟩:=d3 D hD
         refine⟨d4,hoth D _ d5 fun e=> ?_,d6⟩
         rw[e,k3']at d5;cases d5
        refine hy Lr h1.length _ 0 ρ2 s2 h2 a2 W2' _ _ hrd' ⟨S2.st.aside Ab,hmk,Nat.zero_le _⟩ stx.le fun ρ3 a3 W3 sty S3=> ?_
        obtain⟨k3'',n3''⟩:=sty.fr.off hLb n3'
        obtain⟨k4'',n4''⟩:=sty.fr.off (hoth _ _ k4' (by omega)) n4'
        obtain⟨k1'',n1''⟩:=sty.fr.off (hoth _ _ k1' (hltL e3)) n1'
        obtain⟨k2'',n2''⟩:=sty.fr.off (hoth _ _ k2' (hltL e6)) n2'
        have stB:Stk k X ρ h w ρ3 h3 W3:=(Ab.stk stA).trans ⟨sty.rel,sty.fr,sty.evo.mono g2.le,Nat.le_trans g2.le sty.le⟩
        have himm:Imm X ρ1 h1 W ρ3 h3 W3:=fun b j v hm hc=>by
         obtain⟨i1,i2⟩:=stx.fr.imm b j v hm hc
         obtain⟨i3,i4⟩:=Ab.imm b j v i2 i1
         exact sty.fr.imm b j v i4 i3
        have hevo:Evo h1.length ρ1 h1 ρ3 h3:=stx.evo.trans sty.evo
        have hsr:SRel X ρ3 h3 W3 a.tmps s1:=fun t=>(g3.slots t).imono himm hevo
        have hgl:GRel X G ρ3 h3 W3:=((g3.glob.mono stx.fr).aside Ab).mono sty.fr
        have fin: ∀ (jump:Option Code) (ρ4:Places),NoPl ρ4 Lr→
         (Instr.endRound Lr jump).run P W3= .ok (.bool jump.isNone) (W3.putObj Lr (.loop (rec (if jump.isNone then .ready else .done) jump)))∧
         Aside ρ4 w.heap.size W3 (W3.putObj Lr (.loop (rec (if jump.isNone then .ready else .done) jump))):=fun jump ρ4 hno=>by
         have:=run_endRound (P:=P) jump k3''
         rw[hrec]at this ⊢
         rw[hrec]at k3''
         exact⟨this,Aside.put k3'' rfl rfl hno (by omega)⟩
        have hsame: ∀ (o':Go.Obj),(W3.putObj Lr o').heap[Lr]? =some o':=fun o'=>World.putObj_heap_same (Array.getElem?_eq_some_iff.1 k3'').1
        have hoth3: ∀ (B:Nat) (o o':Go.Obj),W3.heap[B]? =some o→B≠Lr→(W3.putObj Lr o').heap[B]? =some o:=fun B o o' hB hne=>(World.putObj_heap_other hne).trans hB
        have left: ∀o',o'≠ .normal→o=o'→roundPost P Lr (fun e W'=>(e= .returned (.bool true)∧J (i+1) W')∨(e= .returned (.bool false)∧Jx W')) o.exit' a3 W3:=fun o' hno ho=>by
         have hr2:r=(o,s1,h3):=by
          subst ho
          cases o with
          |normal=>exact absurd rfl hno
          |exit i=>simpa using g1.symm
          |ret=>simpa using g1.symm
         obtain⟨f1,f2⟩:=fin (some o.code) ρ3 n3''
         have hx':Jx (W3.putObj Lr (.loop (rec .done (some o.code)))):=by
          rw[hJx]
          exact⟨o,s1,h3,ρ3,hr2,ho ▸ hno,f2.stk stB,⟨f2.rel sty.rel,hgl.aside f2,hsr.aside f2,g3.size⟩,⟨n3'',hsame _⟩,⟨n4'',hoth3 _ _ _ k4'' (by omega)⟩⟩
         subst ho
         cases o with
         |normal=>exact absurd rfl hno
         |exit i=>exact⟨_,_,f1,.inr ⟨rfl,hx'⟩⟩
         |ret=>exact⟨_,_,f1,.inr ⟨rfl,hx'⟩⟩
        cases o with
        |exit i=>exact left _ (by simp) rfl
        |ret=>exact left _ (by simp) rfl
        |normal=>
         simp only at g1
         cases hnn:norm k keep s1 h3 with
         |none=>rw[hnn]at g1;cases g1
         |some q4=>
          obtain⟨s4,h4⟩:=q4
          rw[hnn]at g1
          obtain⟨ρ4,st4,sr4⟩:=norm_sound hnn sty.rel hsr (Nat.le_trans g2.le sty.le)
          obtain⟨-,m3⟩:=st4.fr.off k3'' n3''
          obtain⟨-,m4⟩:=st4.fr.off k4'' n4''
          obtain⟨-,m1⟩:=st4.fr.off k1'' n1''
          obtain⟨-,m2⟩:=st4.fr.off k2'' n2''
          obtain⟨f1,f2⟩:=fin none ρ4 m3
          refine⟨_,_,f1,.inl ⟨rfl, ?_⟩⟩
          rw[hJ]
          exact⟨ρ4,s4,h4,g1,f2.stk (stB.trans st4),⟨f2.rel st4.rel,(hgl.mono st4.fr).aside f2,sr4.aside f2,g3.size⟩,⟨m1,hoth3 _ _ _ k1'' (hltL e3)⟩,⟨m2,hoth3 _ _ _ k2'' (hltL e6)⟩,⟨m3,hsame _⟩,⟨m4,hoth3 _ _ _ k4'' (by omega)⟩⟩
    refine⟨w.heap.size+1,[{ target:= .collected w.heap.size,args:= #[] }],W1, { target:= .fn (.func g) #[.pointer (some ⟨b1,0,none⟩),.pointer (some ⟨b2,0,none⟩)],args:= #[.func (.yield (w.heap.size+1)) #[] #[]] },W1,g,
     #[.func (.yield (w.heap.size+1)) #[] #[],.pointer (some ⟨b1,0,none⟩),.pointer (some ⟨b2,0,none⟩)],W1, ?_, ?_,fun _ _=>trivial, ?_,(fun e=>by cases e), ?_⟩
    ·rw[← hW1,hrec];exact run_enterLoop_outer _ _ _ _ _
    ·simp only[resolve,hfv]
     simp[go_sem]
    ·simp[invoke,go_sem,eg]
    ·rw[← hLr]
     refine (callsIn_wide (n:=n - 1)).2 (Calls.mono ((callsIn_wide (n:=8)).1 hcall) ?_)
     have hmarks: ∀ (ρ1:Places) (h1:List Obj) (W W':World),Stk k X ρ h w ρ1 h1 W'→NoPl ρ1 Dm→W'.heap[Dm]? =some (.deferred (some []))→MarksOk ρ1 N W' ([{ target:= .collected w.heap.size,args:= #[] }]++a.defers):=fun ρ1 h1 W W' st hno hd=>by
      obtain⟨Ds,d1,d2,d3⟩:=S.marks.fr st.fr
      obtain⟨Ds',d1',d2',d3'⟩:=S.marks
      have hDD:Ds'=Ds:=by
       have:=d1'.symm.trans d1
       exact (List.map_inj_right (fun x y e=>by simpa using e)).1 this
      subst hDD
      refine⟨Dm::Ds',by rw[d1,hDm];rfl,List.nodup_cons.2 ⟨fun hm=> ?_,d2⟩,fun D hD=> ?_⟩
      ·have:=(Array.getElem?_eq_some_iff.1 (d3' Dm hm).2.1).1
       omega
      ·rcases List.mem_cons.1 hD with rfl | hD
       ·exact⟨by have:=S.le;omega,hd,hno⟩
       ·exact d3 D hD
     rintro e W' ⟨⟨v,rfl⟩,hj | hj⟩
     ·rw[hJ]at hj
      obtain⟨ρ1,s1,h1,g1,g2,g3,-,-,⟨n3,k3⟩,⟨n4,k4⟩⟩:=hj
      rw[List.drop_length]at g1
      simp only[rangeV,Option.some.injEq]at g1
      subst g1
      have hel:=run_endLoop (P:=P) k3 (by rw[hrec];simp)
      refine⟨none,_,by rw[hrec]at hel;exact hel, ?_⟩
      have Ae:Aside ρ1 w.heap.size W' (W'.putObj Lr (.loop { rec .ready none with state:= .exhausted })):=Aside.put k3 rfl rfl n3 (by omega)
      have hk4:(W'.putObj Lr (.loop { rec .ready none with state:= .exhausted })).heap[Dm]? =some (.deferred (some [])):=(World.putObj_heap_other (by omega)).trans k4
      rw[hrec]at Ae hk4
      exact hq ρ1 { a with defers:=[{ target:= .collected w.heap.size,args:= #[] }]++a.defers } _ (Ae.stk g2) ⟨⟨Ae.rel g3.rel,g3.glob.aside Ae,g3.slots.aside Ae,g3.size⟩,hmarks _ _ W' _ (Ae.stk g2) n4 hk4,Nat.le_trans S.le (Ae.stk g2).fr.size⟩
     ·rw[hJx]at hj
      obtain⟨o,s1,h1,ρ1,rfl,hno,g2,g3,⟨n3,k3⟩,⟨n4,k4⟩⟩:=hj
      have hel:=run_endLoop (P:=P) k3 (by rw[hrec];simp)
      refine⟨some o.code,_,by rw[hrec]at hel;exact hel, ?_⟩
      have Ae:Aside ρ1 w.heap.size W' (W'.putObj Lr (.loop { rec .done (some o.code) with state:= .exhausted })):=Aside.put k3 rfl rfl n3 (by omega)
      have hk4:(W'.putObj Lr (.loop { rec .done (some o.code) with state:= .exhausted })).heap[Dm]? =some (.deferred (some [])):=(World.putObj_heap_other (by omega)).trans k4
      rw[hrec]at Ae hk4
      have hqq:=hq ρ1 { a with defers:=[{ target:= .collected w.heap.size,args:= #[] }]++a.defers } _ (Ae.stk g2) ⟨⟨Ae.rel g3.rel,g3.glob.aside Ae,g3.slots.aside Ae,g3.size⟩,hmarks _ _ W' _ (Ae.stk g2) n4 hk4,Nat.le_trans S.le (Ae.stk g2).fr.size⟩
      cases o with
      |normal=>exact absurd rfl hno
      |exit i=>exact wpIn_exit hqq
      |ret=>exact wpIn_ret hqq
  ·cases hr
theorem codeV_does {rd:Option Nat} {run:Run} {nt:Nat} {K:Keeps} {Sh:Hints} {F:FuncId} {loopI:(Slots→List Obj→Res)→Slots→List Obj→Res} (hm:P.follows .mixedOrders=true) (hrun:RunOk P G run) (hhas:RunHas P run) (hit: ∀g,chunks G g=true→ChunkOk P g)
 (hloop: ∀ (k:Nat) (rd:Option Nat) (c:Code) (f:Slots→List Obj→Res),Does k P X G nt rd c f→Does k P X G nt rd (.loop c) (loopI f)):
 ∀ (c:Code) (k b:Nat),codeOk P (Sh F) nt c=true→(rd=none∨flatC c=true)→Does k P X G nt rd c (codeV P G K Sh run loopI F k b c):=by
 intro c
 induction c generalizing rd with
 |skip=>
  intro k b hok hfl n N ρ s h a w r Q hr S hk hq
  simp only[codeV,Option.some.injEq]at hr;subst hr
  exact wpIn_skip (hq ρ a w (Stk.refl S.st.rel hk) S)
 |region id ops draw=>
  intro k b hok hfl n N ρ s h a w r Q hr S hk hq
  simp only[codeV]at hr
  simp only[codeOk,Bool.and_eq_true,List.all_eq_true]at hok
  obtain⟨o,s',h'⟩:=r
  refine regionV_sound hm hrun hhas (fun o ho d hd=> ?_) (fun hd=> ?_) hr S.st fun ρ' a' w' st S' hd=>hq ρ' a' w' (st.stk S.st.rel hk) ⟨S',hd ▸ S.marks.fr st.fr,Nat.le_trans S.le st.fr.size⟩
  ·have:=hok.1 o ho
   rw[hd]at this
   simpa using this
  ·have:=hok.2
   rw[hd]at this
   simpa using this
 |seq x y ihx ihy=>
  intro k b hok hfl n N ρ s h a w r Q hr S hk hq
  simp only[codeV]at hr
  simp only[codeOk,Bool.and_eq_true]at hok
  simp only[flatC,Bool.and_eq_true]at hfl
  refine wpIn_seq ?_
  cases hf:codeV P G K Sh run loopI F k b x s h with
  |none=>rw[hf]at hr;cases hr
  |some q=>
   refine ihx k b hok.1 (hfl.imp id (·.1)) n N ρ s h a w q _ hf S hk fun ρ1 a1 w1 st S1=> ?_
   rw[hf]at hr
   obtain⟨o,s1,h1⟩:=q
   cases o with
   |normal=>exact ihy k b hok.2 (hfl.imp id (·.2)) n N ρ1 s1 h1 a1 w1 r Q hr S1 st.le (hq.step st)
   |exit i=>simp only[onNormal,Option.some.injEq]at hr;subst hr;exact hq ρ1 a1 w1 st S1
   |ret=>simp only[onNormal,Option.some.injEq]at hr;subst hr;exact hq ρ1 a1 w1 st S1
 |cond c x y ihx ihy=>
  intro k b hok hfl n N ρ s h a w r Q hr S hk hq
  simp only[codeV]at hr
  simp only[codeOk,Bool.and_eq_true]at hok
  simp only[flatC,Bool.and_eq_true]at hfl
  unfold branch at hr
  split at hr
  ·rename_i t hc
   have hv:=ev_rel S.st.glob S.st.slots c
   rw[hc]at hv
   have hb:a.eval c= .bool t:=by
    generalize a.eval c=v at hv
    cases hv
    rfl
   refine wpIn_cond hb ?_
   cases t with
   |true=>exact ihx k b hok.1 (hfl.imp id (·.1)) n N ρ s h a w r Q hr S hk hq
   |false=>exact ihy k b hok.2 (hfl.imp id (·.2)) n N ρ s h a w r Q hr S hk hq
  ·cases hr
 |block id c ih=>
  intro k b hok hfl n N ρ s h a w r Q hr S hk hq
  simp only[codeV]at hr
  simp only[codeOk]at hok
  refine wpIn_block ?_
  cases hf:codeV P G K Sh run loopI F k id c s h with
  |none=>rw[hf]at hr;cases hr
  |some q=>
   refine ih k id hok hfl n N ρ s h a w q _ hf S hk fun ρ1 a1 w1 st S1=> ?_
   rw[hf]at hr
   obtain⟨o,s1,h1⟩:=q
   cases o with
   |normal=>simp only[leave,Option.some.injEq]at hr;subst hr;exact hq ρ1 a1 w1 st S1
   |exit i=>
    simp only[leave]at hr
    simp only[Out.exit',Exit.inBlock]
    split at hr
    ·rename_i e
     rw[if_pos e]
     simp only[Option.some.injEq]at hr;subst hr
     exact hq ρ1 a1 w1 st S1
    ·rename_i e
     rw[if_neg e]
     simp only[Option.some.injEq]at hr;subst hr
     exact hq ρ1 a1 w1 st S1
   |ret=>simp only[leave,Option.some.injEq]at hr;subst hr;exact hq ρ1 a1 w1 st S1
 |loop c ih=>
  intro k b hok hfl n N ρ s h a w r Q hr S hk hq
  simp only[codeV]at hr
  simp only[codeOk]at hok
  split at hr
  ·rename_i keep hkeep
   refine hloop k rd c (fun s h=>obind (norm k keep s h) fun p=>codeV P G K Sh run loopI F k b c p.1 p.2) ?_ n N ρ s h a w r Q hr S hk hq
   intro n N ρ s h a w r Q hr S hk hq
   replace hr:(obind (norm k keep s h) fun p=>codeV P G K Sh run loopI F k b c p.1 p.2)=some r:=hr
   cases hn:norm k keep s h with
   |none=>rw[hn]at hr;cases hr
   |some p=>
    obtain⟨s2,h2⟩:=p
    rw[hn]at hr
    obtain⟨ρ2,st,hs⟩:=norm_sound hn S.st.rel S.st.slots hk
    exact ih k b hok hfl n N ρ2 s2 h2 a w r Q hr ⟨⟨st.rel,S.st.glob.mono st.fr,hs,S.st.size⟩,S.marks.fr st.fr,Nat.le_trans S.le st.fr.size⟩ st.le (hq.step st)
  ·exact hloop k rd c _ (ih k b hok hfl) n N ρ s h a w r Q hr S hk hq
 |exit id=>
  intro k b hok hfl n N ρ s h a w r Q hr S hk hq
  simp only[codeV,Option.some.injEq]at hr;subst hr
  exact wpIn_exit (hq ρ a w (Stk.refl S.st.rel hk) S)
 |ret=>
  intro k b hok hfl n N ρ s h a w r Q hr S hk hq
  simp only[codeV,Option.some.injEq]at hr;subst hr
  exact wpIn_ret (hq ρ a w (Stk.refl S.st.rel hk) S)
 |rangeFunc f ps x y ihx ihy=>
  intro k b hok hfl n N ρ s h a w r Q hr S hk hq
  obtain rfl:rd=none:=hfl.resolve_right (by simp[flatC])
  simp only[codeV]at hr
  simp only[codeOk,Bool.and_eq_true]at hok
  obtain⟨⟨⟨⟨f1,f2⟩,hps⟩,ok1⟩,ok2⟩:=hok
  split at hr
  ·rename_i keep p hkp hp
   exact range_does hit (fun l k=>ihx k b ok1 (.inr f1)) (fun l k=>ihy k b ok2 (.inr f2)) hp (by simpa[hp]using hps) n N ρ s h a w r Q hr S hk hq
  ·cases hr
 |_=>
  intro k b hok hfl n N ρ s h a w r Q hr S hk hq
  simp[codeV]at hr
open Classical in
noncomputable def loops (body:Slots→List Obj→Res) (s:Slots) (h:List Obj):Res:=
 if e: ∃n r,iter body n s h=some r then some (Classical.choose (Classical.choose_spec e)) else none
theorem iter_mono {body:Slots→List Obj→Res}: ∀ {n m:Nat},n≤m→ ∀ {s:Slots} {h:List Obj} {r:Out × Slots × List Obj},iter body n s h=some r→iter body m s h=some r
 |0,_,_,s,h,r,hr=>by simp[iter]at hr
 |n+1,0,hl,_,_,_,_=>by omega
 |n+1,m+1,hl,s,h,r,hr=>by
  simp only[iter]at hr ⊢
  cases hb:body s h with
  |none=>rw[hb]at hr;cases hr
  |some q=>
   rw[hb]at hr
   obtain⟨o,s1,h1⟩:=q
   cases o with
   |normal=>exact iter_mono (Nat.le_of_succ_le_succ hl) hr
   |exit i=>exact hr
   |ret=>exact hr
theorem loops_some {body:Slots→List Obj→Res} {s:Slots} {h:List Obj} {r:Out × Slots × List Obj}:loops body s h=some r↔ ∃n,iter body n s h=some r:=by
 unfold loops
 constructor
 ·intro hr
  split at hr
  ·rename_i e
   simp only[Option.some.injEq]at hr
   subst hr
   exact⟨_,Classical.choose_spec (Classical.choose_spec e)⟩
  ·cases hr
 ·rintro ⟨n,hn⟩
  have e: ∃n r,iter body n s h=some r:=⟨n,r,hn⟩
  rw[dif_pos e]
  have h2:=Classical.choose_spec (Classical.choose_spec e)
  have h3:=iter_mono (Nat.le_max_left n (Classical.choose e)) hn
  have h4:=iter_mono (Nat.le_max_right n (Classical.choose e)) h2
  rw[h3]at h4
  simpa using h4.symm
theorem loops_eq (body:Slots→List Obj→Res) (s:Slots) (h:List Obj):loops body s h=onNormal (body s h) (loops body):=by
 apply Option.ext
 intro r
 rw[loops_some]
 cases hb:body s h with
 |none=>
  simp only[onNormal,reduceCtorEq,iff_false,not_exists]
  intro n hn
  cases n with
  |zero=>simp[iter]at hn
  |succ n=>simp[iter,hb,onNormal]at hn
 |some q=>
  obtain⟨o,s1,h1⟩:=q
  cases o with
  |normal=>
   simp only[onNormal]
   rw[loops_some]
   constructor
   ·rintro ⟨n,hn⟩
    cases n with
    |zero=>simp[iter]at hn
    |succ n=>exact⟨n,by simpa[iter,hb,onNormal]using hn⟩
   ·rintro ⟨n,hn⟩
    exact⟨n+1,by simpa[iter,hb,onNormal]using hn⟩
  |exit i=>
   simp only[onNormal]
   constructor
   ·rintro ⟨n,hn⟩
    cases n with
    |zero=>simp[iter]at hn
    |succ n=>simpa[iter,hb,onNormal]using hn
   ·intro hr
    exact⟨1,by simpa[iter,hb,onNormal]using hr⟩
  |ret=>
   simp only[onNormal]
   constructor
   ·rintro ⟨n,hn⟩
    cases n with
    |zero=>simp[iter]at hn
    |succ n=>simpa[iter,hb,onNormal]using hn
   ·intro hr
    exact⟨1,by simpa[iter,hb,onNormal]using hr⟩
theorem loops_does {nt:Nat} {rd:Option Nat} {c:Code} {f:Slots→List Obj→Res} (hc:Does k P X G nt rd c f):Does k P X G nt rd (.loop c) (loops f):=fun m N ρ s h a w r Q hr S hk hq=>
 let ⟨n,hn⟩:=loops_some.1 hr
 loop_does hc n m N ρ s h a w r Q hn S hk hq
end
end Go.Am
namespace Go.Am
section
variable {X:Nat→Nat→Prop} {ρ ρ' ρ'':Places} {h h' h'' h2:List Obj} {w w' w'':World} {k:Nat} {P:Program} {G:Nat→Option (List D)}
theorem gather_some {α β:Type} {f:α→Option (List β)}: ∀ {l:List α} {L:List β},gather l f=some L→ ∀x∈l, ∃a,f x=some a∧ ∀y∈a,y∈L
 |[],L,_,x,hx=>by cases hx
 |z::zs,L,hg,x,hx=>by
  simp only[gather]at hg
  split at hg
  ·rename_i a b h1 h2
   simp only[Option.some.injEq]at hg
   subst hg
   rcases List.mem_cons.1 hx with rfl | hx
   ·exact⟨a,h1,fun y hy=>List.mem_append_left _ hy⟩
   ·obtain⟨a',h3,h4⟩:=gather_some h2 x hx
    exact⟨a',h3,fun y hy=>List.mem_append_right _ (h4 y hy)⟩
  ·cases hg
theorem nodupB_iff: ∀ {l:List Nat},nodupB l=true→l.Nodup
 |[],_=> .nil
 |x::xs,h=>by
  simp only[nodupB,Bool.and_eq_true,Bool.not_eq_true',List.contains_eq_mem,decide_eq_false_iff_not]at h
  exact List.nodup_cons.2 ⟨h.1,nodupB_iff h.2⟩
theorem keysV_some {f:V} {i m ck:Nat} {ks:List D} {bs:List Nat} (hi:keysV G h f=some (i,m,ks,bs,ck)): ∃ (g:Nat) (es:List (D × V)),f= .clo g [.ptr i 0]∧keysF G g=true∧h[i]? =some (.box [.mp m])∧
 h[m]? =some (.map es bs ck)∧ks=es.map (·.1)∧bs.Nodup∧(∀x∈bs,x<ck)∧ ∀x∈ks,keyOk (textsF G g) x=true:=by
 unfold keysV at hi
 split at hi
 ·rename_i g i'
  split at hi
  ·rename_i hc
   split at hi
   ·rename_i m' h1
    split at hi
    ·rename_i es bs' ck' h2
     split at hi
     ·rename_i hcond
      simp only[Option.some.injEq,Prod.mk.injEq]at hi
      obtain⟨rfl,rfl,rfl,rfl,rfl⟩:=hi
      rw[Bool.and_eq_true,Bool.and_eq_true]at hcond
      exact⟨g,es,rfl,hc,h1,h2,rfl,nodupB_iff hcond.1.1,fun x hx=>of_decide_eq_true (List.all_eq_true.1 hcond.1.2 x hx),fun x hx=>List.all_eq_true.1 hcond.2 x hx⟩
     ·cases hi
    ·cases hi
   ·cases hi
  ·cases hi
 ·cases hi
theorem sameMap_some {m ck:Nat} {ks:List D} {bs:List Nat} (hs:sameMap h m ks bs ck=true): ∃es:List (D × V),h[m]? =some (.map es bs ck)∧es.map (·.1)=ks:=by
 unfold sameMap at hs
 replace hs:=(Bool.and_eq_true_iff.1 hs).2
 split at hs
 ·rename_i es bs' ck' h1
  simp only[Bool.and_eq_true,decide_eq_true_eq,eqbL_eq]at hs
  obtain⟨h2,h3,h4⟩:=hs
  subst h3 h4
  exact⟨es,h1,h2⟩
 ·cases hs
def IterStep (B:Nat) (W W':World):Prop:=
 (RowKit.Below W.heap.size W W'∧B≤W.heap.size)∨ ∃ (r:Nat) (m:Option Nat) (s:Nat) (se:Array Nat) (la:Nat) (m':Option Nat) (s':Nat) (se':Array Nat) (la':Nat),B≤r∧W.heap[r]? =some (Go.Obj.mapIter m s se la)∧W'=W.putObj r (Go.Obj.mapIter m' s' se' la')
def KeepsIters (W W':World):Prop:= ∀ (r:Nat) (m:Option Nat) (s:Nat) (se:Array Nat) (la:Nat),W.heap[r]? =some (Go.Obj.mapIter m s se la)→W'.heap[r]? =some (Go.Obj.mapIter m s se la)
def KeyVal (t:Bool) (v:Value):Prop:=if t=true then ∃s,v= .string s else ∃a b c:Value,v= .agg #[a,b,c]∧a.oneCell'=true∧b.oneCell'=true∧c.oneCell'=true
theorem keyVal_of {t:Bool} {x:D} {M:Nat→Nat→Prop} {v:Value} (hk:keyOk t x=true) (hr:Rep M w v x):KeyVal t v:=by
 have one: ∀ {y:D},oneD y=true→y.isCell=true:=fun {y} h=>by cases y <;> first | rfl | cases h
 unfold keyOk at hk
 split at hk
 ·subst hk
  cases hr
  exact⟨_,rfl⟩
 ·rename_i a b c
  simp only[Bool.and_eq_true,Bool.not_eq_true']at hk
  obtain⟨rfl,k1,k2,k3⟩:=hk
  cases hr with
  |agg cs _ vs h1 h2 h3=>
   have q0:=h2 0 a rfl
   have q1:=h2 1 b rfl
   have q2:=h2 2 c rfl
   refine⟨vs 0,vs 1,vs 2, ?_,(h3 0 a rfl).one (one k1),(h3 1 b rfl).one (one k2),(h3 2 c rfl).one (one k3)⟩
   congr 1
   apply Array.ext_getElem?
   intro j
   have:cs.size=3:=h1
   match j with
   |0=>rw[q0.1];rfl
   |1=>rw[q1.1];rfl
   |2=>rw[q2.1];rfl
   |j+3=>rw[Array.getElem?_eq_none (by omega),Array.getElem?_eq_none (by simp)]
 ·cases hk
def KeysOk (P:Program) (t:Bool) (g:FuncId):Prop:=
 (∀args w,(callFunc g args).run P w= .ok (.enter g args) w)∧
 ∀ (l Bm b ck:Nat) (bs:List Nat) (J:List Nat→World→Prop) (W:World),bs.Nodup→(∀x∈bs,x<ck)→
  W.cell? ⟨Bm,0,none⟩=some (.map (some b))→(∀pre W,J pre W→ ∃en,W.heap[b]? =some (.map en ck)∧en.toList.map (·.born)=bs∧ ∀e∈en.toList,KeyVal t e.key)→
  (∀pre W1 W2,J pre W1→IterStep W.heap.size W1 W2→J pre W2)→
  (∀pre i en e W1,J pre W1→i∉pre→W1.heap[b]? =some (.map en ck)→en[i]? =some e→
    YieldAt (Fw none) 7 P l #[e.key] W1 fun e W'=>e= .returned (.bool true)∧J (pre++[i]) W'∧KeepsIters W1 W')→J [] W→
  CallsIn (Fw none) 8 P g #[.func (.yield l) #[] #[],.pointer (some ⟨Bm,0,none⟩)] W fun e W'=>(∃v,e= .returned v)∧ ∃pre,pre.Perm (List.range bs.length)∧J pre W'
def DoesL (k:Nat) (P:Program) (X:Nat→Nat→Prop) (G:Nat→Option (List D)) (nt:Nat) (c:Code) (f:Slots→List Obj→Option (List (Out × Slots × List Obj))):Prop:=
 ∀ (n N:Nat) (ρ:Places) (s:Slots) (h:List Obj) (a:Act) (w:World) (l:List (Out × Slots × List Obj)) (Q:Exit→Act→World→Prop),f s h=some l→StM N X G nt ρ h w a s→k≤h.length→
  (∀r∈l,Owes k N X G nt ρ h w r Q)→c.wpIn (Fw none) n P Q a w
theorem Does.toL {nt:Nat} {c:Code} {f:Slots→List Obj→Res} (hc:Does k P X G nt none c f):DoesL k P X G nt c fun s h=>(f s h).map fun r=>[r]:=by
 intro n N ρ s h a w l Q hl S hk hq
 simp only[Option.map_eq_some_iff]at hl
 obtain⟨r,hr,rfl⟩:=hl
 exact hc n N ρ s h a w r Q hr S hk (hq r (List.mem_cons_self ..))
theorem map_at (H:HRel X ρ h w) {m b c ck:Nat} {es:List (D × V)} {bs:List Nat} (ho:h[m]? =some (.map es bs ck)) (hp:ρ[m]? =some (some (b,c))):
 ∃en:Array MapEntry,w.heap[b]? =some (.map en ck)∧en.toList.map (·.born)=bs∧en.size=es.length∧ ∀ (j:Nat) (x:D),(es.map (·.1))[j]? =some x→ ∃e,en[j]? =some e∧Rep (Mut X ρ h) w e.key x:=by
 obtain⟨r,k1,k2⟩:=H.obj m _ ho
 rw[hp]at k1
 cases k1
 obtain⟨b',c',en,e1,e2,e3,e4,e5⟩:=k2
 cases e1
 refine⟨en,e2,e4,e3,fun j x hj=> ?_⟩
 rw[List.getElem?_map,Option.map_eq_some_iff]at hj
 obtain⟨⟨x',v⟩,hj,rfl⟩:=hj
 obtain⟨e,f1,f2,-⟩:=e5 j _ _ hj
 exact⟨e,f1,f2⟩
theorem sameMap_no {m ck:Nat} {ks:List D} {bs:List Nat} (hs:sameMap h m ks bs ck=true):h.all noMit=true:=by
 unfold sameMap at hs
 exact (Bool.and_eq_true_iff.1 hs).1
theorem HRel.iter_no (H:HRel X ρ h w) (hn:h.all noMit=true) {r s la:Nat} {m:Option Nat} {se:Array Nat} (hr:w.heap[r]? =some (.mapIter m s se la)):NoPl ρ r:=fun id c e=>by
 have hid:id<h.length:=by rw[← H.len];exact lt_of_getElem? e
 obtain⟨q,h1,h2⟩:=H.obj id h[id] (by simp[hid])
 rw[e]at h1
 cases h1
 have hnm:noMit h[id]=true:=List.all_eq_true.1 hn _ (List.getElem_mem hid)
 generalize h[id]=o at h2 hnm
 cases o with
 |miter _=>cases hnm
 |box cs=>obtain⟨b',c',cur,e,fz,e1,e2,_⟩:=h2.2 (by simp);cases e1;rw[hr]at e2;cases e2
 |arr sz xs wm=>obtain⟨_,cur,e,fz,e2,_⟩:=h2;rw[hr]at e2;cases e2
 |siter s pos=>obtain⟨b',c',e1,e2⟩:=h2;cases e1;rw[hr]at e2;cases e2
 |map es bs ck=>obtain⟨b',c',en,e1,e2,_⟩:=h2;cases e1;rw[hr]at e2;cases e2
theorem IterStep.keeps {B k nt:Nat} {W W':World} {ρ0:Places} {h0:List Obj} {w0:World} {a:Act} {s:Slots} (st:Stk k X ρ0 h0 w0 ρ h W) (S:St X G nt ρ h W a s) (hB:w0.heap.size≤B) (hn:h.all noMit=true) (hs:IterStep B W W'):Stk k X ρ0 h0 w0 ρ h W'∧St X G nt ρ h W' a s:=by
 rcases hs with ⟨hb,hB'⟩ | ⟨r,m,s',se,la,m',s'',se',la',hB',hr,rfl⟩
 ·have H:=st.rel
  have fr:Fr X ρ h W ρ h W':=⟨hb.os,hb.tape,hb.output,hb.size,fun b hb' hn=>⟨hb.block b hb',hn⟩,fun b j v hm hc=>⟨(World.cell?_of_block (a:=⟨b,j,none⟩) (hb.block b (World.block_lt_of_cell? W ⟨b,j,none⟩ hc))).trans hc,hm⟩⟩
  have H':HRel X ρ h W':=⟨H.len,fun id o ho=>by
   obtain⟨r,hr,hrel⟩:=H.obj id o ho
   exact⟨r,hr,hrel.kept fr (Evo.refl _ _ _) fun b c e=>hb.block b (H.lt (e ▸ hr))⟩,fun b j hX=>Nat.lt_of_lt_of_le (H.xlt b j hX) hb.size,H.xown,H.inj⟩
  exact⟨st.trans ⟨H',fr,Evo.refl _ _ _,st.le⟩,⟨H',S.glob.mono fr,S.slots.mono ⟨H',fr,Evo.refl _ _ _⟩,S.size⟩⟩
 ·have A:Aside ρ B W (W.putObj r (.mapIter m' s'' se' la')):=Aside.put hr rfl rfl (st.rel.iter_no hn hr) hB'
  have A':Aside ρ w0.heap.size W (W.putObj r (.mapIter m' s'' se' la')):=⟨A.os,A.tape,A.output,A.size,A.cell,fun b hb=>A.low b (by omega),A.at_⟩
  exact⟨A'.stk st,S.aside A⟩
theorem IterStep.other {B:Nat} {W W':World} (hs:IterStep B W W') {L:Nat} {o:Go.Obj} (hL:W.heap[L]? =some o) (ho: ∀m s se la,o≠ .mapIter m s se la):W'.heap[L]? =some o:=by
 rcases hs with ⟨hb,hB⟩ | ⟨r,m,s,se,la,m',s',se',la',hB,hr,rfl⟩
 ·exact (hb.block L (Array.getElem?_eq_some_iff.1 hL).1).trans hL
 ·exact (World.putObj_heap_other fun e=>by subst e;rw[hL]at hr;cases hr;exact ho _ _ _ _ rfl).trans hL
theorem filter_step {n:Nat} {pre:List Nat} {i:Nat}:((List.range n).filter (fun j=>decide (j∉pre))).filter (·!= i)=(List.range n).filter (fun j=>decide (j∉pre++[i])):=by
 rw[List.filter_filter]
 congr 1
 funext j
 by_cases h1:j∈pre <;> by_cases h2:j=i <;> simp[h1,h2]
theorem left_pos {n:Nat} {pre:List Nat} {i:Nat} (hn:pre.Nodup) (hl: ∀j∈pre,j<n) (hi:i∉pre) (hin:i<n):pre.length<n:=by
 have h1:(pre++[i]).Nodup:=by
  rw[List.nodup_append]
  exact⟨hn,by simp,fun a ha b hb=>by simp only[List.mem_singleton]at hb;subst hb;exact fun e=>hi (e ▸ ha)⟩
 have h2: ∀j∈pre++[i],j∈List.range n:=fun j hj=>by
  rcases List.mem_append.1 hj with hj | hj
  ·exact List.mem_range.2 (hl j hj)
  ·simp only[List.mem_singleton]at hj;subst hj;exact List.mem_range.2 hin
 have h4:(pre++[i]).Perm ((List.range n).filter fun j=>decide (j∈pre++[i])):=(List.perm_ext_iff_of_nodup h1 (List.nodup_range.filter _)).2 fun a=>by
  rw[List.mem_filter,decide_eq_true_eq]
  exact⟨fun ha=>⟨h2 a ha,ha⟩,fun ha=>ha.2⟩
 have h3:=h4.length_eq
 have h5:=List.length_filter_le (fun j=>decide (j∈pre++[i])) (List.range n)
 simp only[List.length_append,List.length_cons,List.length_nil,List.length_range]at h3 h5
 omega
theorem rangeK_does {run:Run} {K:Keeps} {Sh:Hints} {F:FuncId} {nt b0:Nat} {loopI:(Slots→List Obj→Res)→Slots→List Obj→Res} (hit: ∀g,keysF G g=true→KeysOk P (textsF G g) g) {f:Operand} {ps:Array Tmp} {x y:Code} {keep:List (Nat × Nat)} {p:Nat}
 (hx: ∀l k,Does k P X G nt (some l) x (codeV P G K Sh run loopI F k b0 x)) (hy: ∀l k,Does k P X G nt (some l) y (codeV P G K Sh run loopI F k b0 y)) (hp:ps.toList=[p]) (hlt:p<nt) {i m ck:Nat} {ks:List D} {bs:List Nat} {n N:Nat} {s:Slots} {a:Act} {Ls:List (Out × Slots × List Obj)} {Q:Exit→Act→World→Prop}
 (hi:keysV G h (ev G s f)=some (i,m,ks,bs,ck))
 (hr:(if loose k keep s h i && decide (m<k) then
   obind (norm k keep s h) fun q=>if sameMap q.2 m ks bs ck then
    (rangeK (fun x1 s h=>match codeV P G K Sh run loopI F h.length b0 x ((p,.d x1)::s) h with
      |some (.normal,s1,h1)=>codeV P G K Sh run loopI F h.length b0 y s1 h1
      |_=>none) k keep m ks bs ck ks.length (List.range ks.length) q.1 q.2).map fun l=>l.map fun p=>(Out.normal,p.1,p.2) else none
   else none)=some Ls) (S:StM N X G nt ρ h w a s) (hk:k≤h.length) (hq: ∀r∈Ls,Owes k N X G nt ρ h w r Q):
 (Code.rangeFunc f ps x y).wpIn (Fw none) n P Q a w:=by
 obtain rfl:ps= #[p]:=Array.ext' hp
 obtain⟨round,hround⟩: ∃round:D→Slots→List Obj→Res,round=fun x1 s h=>match codeV P G K Sh run loopI F h.length b0 x ((p,.d x1)::s) h with
         |some (.normal,s1,h1)=>codeV P G K Sh run loopI F h.length b0 y s1 h1
         |_=>none:=⟨_,rfl⟩
 rw[← hround]at hr
 obtain⟨g,es,hf,hg,ho1,ho2,hks,hnd,hck,hkk⟩:=keysV_some hi
 split at hr
 ·rename_i hlo
  simp only[Bool.and_eq_true,decide_eq_true_eq]at hlo
  obtain⟨hlo,hmk⟩:=hlo
  cases hnm:norm k keep s h with
  |none=>rw[hnm]at hr;cases hr
  |some q=>
   obtain⟨s0,h0⟩:=q
   rw[hnm]at hr
   simp only[obind]at hr
   split at hr
   ·rename_i hsm0
    rw[Option.map_eq_some_iff]at hr
    obtain⟨L,hL,rfl⟩:=hr
    obtain⟨ρ0,st0,sr0,np0⟩:=loose_spec hnm S.st.rel S.st.slots hk
    have hv:=ev_rel S.st.glob S.st.slots f
    rw[hf]at hv
    obtain⟨us,hfv,hus,hc⟩:=hv
    obtain⟨u1,hu1,o1,b1,c1,-,-,e3,rfl⟩:=hc 0 (.ptr i 0) rfl
    have hus':us= #[.pointer (some ⟨b1,0,none⟩)]:=by
     apply Array.ext
     ·simpa using hus
     ·intro t ht1 ht2
      have:t=0:=by simp at ht2;omega
      subst this
      rw[Array.getElem?_eq_getElem ht1]at hu1;simpa using hu1
    subst hus'
    obtain⟨v1,hc1,r1⟩:=box_cell S.st.rel ho1 e3
    obtain⟨bm,cm,hv1,hpm⟩: ∃bm cm:Nat,v1= .map (some bm)∧ρ[m]? =some (some (bm,cm)):=by
     rcases (show V0 X ρ h w v1 (.mp m) from r1) with ⟨cs,b,c,k1,_⟩ | ⟨es',bs',ck',b,c,k1,k2,rfl⟩
     ·rw[ho2]at k1;cases k1
     ·exact⟨b,c,rfl,k2⟩
    subst hv1
    have hbl:bs.length=ks.length:=by
     obtain⟨en,-,q2,q3,-⟩:=map_at S.st.rel ho2 hpm
     rw[← q2,hks];simp[q3]
    have nb1:=np0 i b1 c1 _ hlo ho1 e3
    obtain⟨eg,hco⟩:=hit g hg
    refine wpIn_rangeFunc fun fn _=> ?_
    show ∃ (l:Nat) (mark:List Deferred) (w₁:World) (d:Deferred) (w₁':World) (f':FuncId) (args:Array Value) (w₂:World),(Instr.enterLoop fn a.tmps #[p] x y none).run P w= .ok (l,mark) w₁∧_
    obtain⟨rec,hrec⟩: ∃rec:LoopState→Option Code→Loop,rec=fun st pe=> { state:=st,pending:=pe,fn,tmps:=a.tmps,params:= #[p],assign:=x,body:=y,defers:=w.heap.size }:=⟨_,rfl⟩
    obtain⟨W1,hW1⟩: ∃W1,(w.alloc (.deferred (some []))).alloc (.loop (rec .ready none))=W1:=⟨_,rfl⟩
    have hL1:W1.heap[w.heap.size+1]? =some (.loop (rec .ready none)):=by
     rw[← hW1];have:=World.alloc_heap_new (w.alloc (.deferred (some []))) (.loop (rec .ready none));rwa [World.size_alloc]at this
    have hK1:W1.heap[w.heap.size]? =some (.deferred (some [])):=by
     rw[← hW1];exact (RowKit.Below.heap_alloc _ _ _ (by simp)).trans (World.alloc_heap_new w _)
    have hbk1: ∃o,w.heap[b1]? =some o∧ ∀m s se la,o≠ .mapIter m s se la:=by
     obtain⟨rr,q1,q2⟩:=S.st.rel.obj i _ ho1
     rw[e3]at q1
     cases q1
     obtain⟨b',c',cur,e,fz,e1,e2,_⟩:=q2.2 (by simp)
     cases e1
     exact⟨_,e2,fun _ _ _ _ e=>by cases e⟩
    obtain⟨ob1,hob1,hit1⟩:=hbk1
    have A1:Aside ρ0 w.heap.size w W1:=by
     rw[← hW1]
     exact (Aside.new st0.rel rfl (Nat.le_refl _)).trans (Aside.new ((Aside.new st0.rel (o:= .deferred (some [])) rfl (Nat.le_refl _)).rel st0.rel) rfl (by simp))
    have hfresh: ∀B,w.heap.size≤B→NoPl ρ0 B:=fun B hB id c e=>by have:=st0.rel.lt e;omega
    obtain⟨Lr,hLr⟩: ∃Lr,Lr=w.heap.size+1:=⟨_,rfl⟩
    obtain⟨Dm,hDm⟩: ∃Dm,Dm=w.heap.size:=⟨_,rfl⟩
    have hsz1:w.heap.size≤W1.heap.size:=A1.size
    rw[← hLr]at hL1
    rw[← hDm]at hK1
    obtain⟨J,hJ⟩: ∃J:List Nat→World→Prop,J=fun pre W=> ∃ρ1 s1 h1 L1,rangeK round k keep m ks bs ck (ks.length - pre.length) ((List.range ks.length).filter fun j=>decide (j∉pre)) s1 h1=some L1∧(∀z∈L1,z∈L)∧(pre.Nodup∧ ∀j∈pre,j<ks.length)∧
     sameMap h1 m ks bs ck=true∧Stk k X ρ h w ρ1 h1 W∧St X G nt ρ1 h1 W a s1∧(NoPl ρ1 b1∧W.heap[b1]? =some ob1)∧
     (NoPl ρ1 Lr∧W.heap[Lr]? =some (.loop (rec .ready none)))∧(NoPl ρ1 Dm∧W.heap[Dm]? =some (.deferred (some []))):=⟨_,rfl⟩
    have hJ0:J [] W1:=by
     rw[hJ]
     refine⟨ρ0,s0,h0,L, ?_,fun z hz=>hz,⟨.nil,fun j hj=>by cases hj⟩,hsm0,A1.stk st0,⟨A1.rel st0.rel,(S.st.glob.mono st0.fr).aside A1,sr0.aside A1,S.st.size⟩,⟨nb1, ?_⟩,⟨hfresh _ (by omega),hL1⟩,⟨hfresh _ (by omega),hK1⟩⟩
     ·have:((List.range ks.length).filter fun j=>decide (j∉([]:List Nat)))=List.range ks.length:=by simp
      rw[this]
      exact hL
     ·rw[A1.low _ (S.st.rel.lt e3)];exact hob1
    have hmapJ: ∀ (ρ1:Places) (h1:List Obj) (W:World),Stk k X ρ h w ρ1 h1 W→sameMap h1 m ks bs ck=true→ ∃en:Array MapEntry,W.heap[bm]? =some (.map en ck)∧en.toList.map (·.born)=bs∧(∀ (j:Nat) (x:D),ks[j]? =some x→ ∃e,en[j]? =some e∧Rep (Mut X ρ1 h1) W e.key x)∧ ∀e∈en.toList,KeyVal (textsF G g) e.key:=fun ρ1 h1 W st hs=>by
     obtain⟨es1,hm1,hk1⟩:=sameMap_some hs
     obtain⟨o',r',k1,k2,k3⟩:=st.evo m _ _ hmk ho2 hpm
     rw[hm1]at k1
     cases k1
     have k4:r'=some (bm,cm):=k3
     subst k4
     obtain⟨en,q1,q2,q3,q4⟩:=map_at st.rel hm1 k2
     rw[hk1]at q4
     refine⟨en,q1,q2,q4,fun e he=> ?_⟩
     obtain⟨j,hj,rfl⟩:=List.getElem_of_mem he
     have hjk:j<ks.length:=by rw[← hk1,List.length_map,← q3];simpa using hj
     obtain⟨e,f1,f2⟩:=q4 j ks[j] (List.getElem?_eq_getElem hjk)
     have:en.toList[j]=e:=by
      rw[← Array.getElem?_toList,List.getElem?_eq_getElem hj]at f1
      exact Option.some.inj f1
     rw[this]
     exact keyVal_of (hkk _ (List.getElem_mem hjk)) f2
    have hcell: ∀pre W,J pre W→ ∃en,W.heap[bm]? =some (.map en ck)∧en.toList.map (·.born)=bs∧ ∀e∈en.toList,KeyVal (textsF G g) e.key:=fun pre W hj=>by
     rw[hJ]at hj
     obtain⟨ρ1,s1,h1,L1,-,-,-,hs,st,-⟩:=hj
     obtain⟨en,q1,q2,-,q5⟩:=hmapJ ρ1 h1 W st hs
     exact⟨en,q1,q2,q5⟩
    have hcell1:W1.cell? ⟨b1,0,none⟩=some (.map (some bm)):=(A1.cell b1 0).trans hc1
    have hstep: ∀pre Wa Wb,J pre Wa→IterStep W1.heap.size Wa Wb→J pre Wb:=fun pre Wa Wb hj hs=>by
     rw[hJ]at hj ⊢
     obtain⟨ρ1,s1,h1,L1,g1,g2,g3,g4,g5,g6,⟨n1,k1⟩,⟨n3,k3⟩,⟨n4,k4⟩⟩:=hj
     obtain⟨A1,A2⟩:=hs.keeps g5 g6 hsz1 (sameMap_no g4)
     exact⟨ρ1,s1,h1,L1,g1,g2,g3,g4,A1,A2,⟨n1,hs.other k1 hit1⟩,⟨n3,hs.other k3 fun _ _ _ _ e=>by cases e⟩,⟨n4,hs.other k4 fun _ _ _ _ e=>by cases e⟩⟩
    have hcall:CallsIn (Fw none) 8 P g #[.func (.yield Lr) #[] #[],.pointer (some ⟨b1,0,none⟩)] W1 fun e W'=>(∃v,e= .returned v)∧ ∃pre,pre.Perm (List.range bs.length)∧J pre W':=by
     refine hco Lr b1 bm ck bs J W1 hnd hck hcell1 hcell hstep (fun pre j en e W hj hnj hen hej=> ?_) hJ0
     rw[hJ]at hj
     obtain⟨ρ1,s1,h1,L1,g1,gL,gp,gs,g2,g3,⟨n1,k1⟩,⟨n3,k3⟩,⟨n4,k4⟩⟩:=hj
     obtain⟨en',q1,q2,q3,-⟩:=hmapJ ρ1 h1 W g2 gs
     rw[hen]at q1
     cases q1
     have hjl:j<ks.length:=by
      rw[← hbl,← q2]
      have:=(Array.getElem?_eq_some_iff.1 hej).1
      simpa using this
     obtain⟨z,hz⟩: ∃z,ks[j]? =some z:=⟨_,List.getElem?_eq_getElem hjl⟩
     obtain⟨e',f1,hrep⟩:=q3 j z hz
     rw[hej]at f1
     cases f1
     have hpl:=left_pos gp.1 gp.2 hnj hjl
     obtain⟨fu,hfu⟩: ∃fu,ks.length - pre.length=fu+1:=⟨ks.length - pre.length - 1,by omega⟩
     rw[hfu]at g1
     simp only[rangeK]at g1
     obtain⟨L2,g1,gL2⟩:=gather_some g1 j (by rw[List.mem_filter];exact⟨List.mem_range.2 hjl,by simpa using hnj⟩)
     rw[hz]at g1
     simp only at g1
     have hy0:=run_yield (P:=P) (args:= #[e.key]) k3 (by rw[hrec];rfl)
     rw[hrec]at hy0
     refine⟨_,_,_,_,hy0,roundIn_of_wpIn trivial ?_⟩
     have htm:((#[p]:Array Tmp).zip #[e.key]).foldl (fun tmps (t,a)=>tmps.setIfInBounds t a) a.tmps=a.tmps.setIfInBounds p e.key:=by simp
     have S1:StM 0 X G nt ρ1 h1 W { tmps:=((#[p]:Array Tmp).zip #[e.key]).foldl (fun tmps (t,a)=>tmps.setIfInBounds t a) a.tmps,defers:=[] } ((p,.d z)::s1):=by
      rw[htm]
      refine⟨⟨g3.rel,g3.glob,fun t=> ?_,by simpa using g3.size⟩,⟨[],rfl,List.nodup_nil,fun _ h=>by cases h⟩,Nat.zero_le _⟩
      simp only[sget]
      rw[getD_set (by rw[g3.size];exact hlt)]
      split
      ·exact hrep
      ·exact g3.slots t
     cases hrd:round z s1 h1 with
     |none=>rw[hrd]at g1;cases g1
     |some rr=>
      obtain⟨o,s3,h3⟩:=rr
      rw[hrd]at g1
      have hrd':=hrd
      rw[hround]at hrd'
      simp only at hrd'
      cases hcx:codeV P G K Sh run loopI F h1.length b0 x ((p,.d z)::s1) h1 with
      |none=>rw[hcx]at hrd';cases hrd'
      |some rx=>
       obtain⟨ox,s2,h2⟩:=rx
       rw[hcx]at hrd'
       cases ox with
       |exit _=>cases hrd'
       |ret=>cases hrd'
       |normal=>
        simp only at hrd'
        refine hx Lr h1.length _ 0 ρ1 _ h1 _ W _ _ hcx S1 (Nat.le_refl _) fun ρ2 a2 W2 stx S2=> ?_
        obtain⟨k3',n3'⟩:=stx.fr.off k3 n3
        obtain⟨k4',n4'⟩:=stx.fr.off k4 n4
        obtain⟨k1',n1'⟩:=stx.fr.off k1 n1
        have stA:Stk k X ρ h w ρ2 h2 W2:=g2.trans ⟨stx.rel,stx.fr,stx.evo.mono g2.le,Nat.le_trans g2.le stx.le⟩
        refine⟨_,run_beginRound k3' (by rw[hrec]), ?_⟩
        obtain⟨W2',hW2'⟩: ∃W2',W2.putObj Lr (.loop { rec .ready none with state:= .busy })=W2':=⟨_,rfl⟩
        have Ab:Aside ρ2 w.heap.size W2 W2':=by rw[← hW2'];exact Aside.put k3' rfl rfl n3' (by omega)
        have hoth: ∀ (B:Nat) (o:Go.Obj),W2.heap[B]? =some o→B≠Lr→W2'.heap[B]? =some o:=fun B o hB hne=>by rw[← hW2',World.putObj_heap_other hne];exact hB
        have hLb:W2'.heap[Lr]? =some (.loop { rec .ready none with state:= .busy }):=by rw[← hW2'];exact World.putObj_heap_same (Array.getElem?_eq_some_iff.1 k3').1
        rw[hW2']
        have hltL: ∀ {b c id:Nat},ρ[id]? =some (some (b,c))→b≠Lr:=fun e e'=>by have:=S.st.rel.lt e;omega
        have hmk2:MarksOk ρ2 0 W2' a2.defers:=by
         obtain⟨Ds,d1,d2,d3⟩:=S2.marks
         refine⟨Ds,d1,d2,fun D hD=> ?_⟩
         obtain⟨d4,d5,d6⟩:=d3 D hD
         refine⟨d4,hoth D _ d5 fun e=> ?_,d6⟩
         rw[e,k3']at d5;cases d5
        refine hy Lr h1.length _ 0 ρ2 s2 h2 a2 W2' _ _ hrd' ⟨S2.st.aside Ab,hmk2,Nat.zero_le _⟩ stx.le fun ρ3 a3 W3 sty S3=> ?_
        obtain⟨k3'',n3''⟩:=sty.fr.off hLb n3'
        obtain⟨k4'',n4''⟩:=sty.fr.off (hoth _ _ k4' (by omega)) n4'
        obtain⟨k1'',n1''⟩:=sty.fr.off (hoth _ _ k1' (hltL e3)) n1'
        have stB:Stk k X ρ h w ρ3 h3 W3:=(Ab.stk stA).trans ⟨sty.rel,sty.fr,sty.evo.mono g2.le,Nat.le_trans g2.le sty.le⟩
        have himm:Imm X ρ1 h1 W ρ3 h3 W3:=fun b j v hm hc=>by
         obtain⟨i1,i2⟩:=stx.fr.imm b j v hm hc
         obtain⟨i3,i4⟩:=Ab.imm b j v i2 i1
         exact sty.fr.imm b j v i4 i3
        have hevo:Evo h1.length ρ1 h1 ρ3 h3:=stx.evo.trans sty.evo
        have hsr:SRel X ρ3 h3 W3 a.tmps s1:=fun t=>(g3.slots t).imono himm hevo
        have hgl:GRel X G ρ3 h3 W3:=((g3.glob.mono stx.fr).aside Ab).mono sty.fr
        have hki: ∀r m s se la,W.heap[r]? =some (.mapIter m s se la)→W3.heap[r]? =some (.mapIter m s se la)∧r≠Lr:=fun r m s se la hr=>by
         have hne:r≠Lr:=fun e=>by subst e;rw[k3]at hr;cases hr
         obtain⟨i1,i2⟩:=stx.fr.off hr (g3.rel.iter_no (sameMap_no gs) hr)
         exact⟨(sty.fr.off (hoth _ _ i1 hne) i2).1,hne⟩
        cases o with
        |exit _=>cases g1
        |ret=>cases g1
        |normal=>
         simp only at g1
         cases hnn:norm k keep s1 h3 with
         |none=>rw[hnn]at g1;cases g1
         |some q4=>
          obtain⟨s4,h4⟩:=q4
          rw[hnn]at g1
          simp only[obind]at g1
          split at g1
          ·rename_i hsm4
           rw[filter_step]at g1
           obtain⟨ρ4,st4,sr4⟩:=norm_sound hnn sty.rel hsr (Nat.le_trans g2.le sty.le)
           obtain⟨-,m3⟩:=st4.fr.off k3'' n3''
           obtain⟨-,m4⟩:=st4.fr.off k4'' n4''
           obtain⟨-,m1⟩:=st4.fr.off k1'' n1''
           have f1:(Instr.endRound Lr none).run P W3= .ok (.bool (none:Option Code).isNone) (W3.putObj Lr (.loop (rec .ready none))):=by
            have:=run_endRound (P:=P) none k3''
            rw[hrec]at this ⊢
            exact this
           have f2:Aside ρ4 w.heap.size W3 (W3.putObj Lr (.loop (rec .ready none))):=Aside.put k3'' rfl rfl m3 (by omega)
           have hsame:(W3.putObj Lr (.loop (rec .ready none))).heap[Lr]? =some (.loop (rec .ready none)):=World.putObj_heap_same (Array.getElem?_eq_some_iff.1 k3'').1
           have hoth3: ∀ (B:Nat) (o o':Go.Obj),W3.heap[B]? =some o→B≠Lr→(W3.putObj Lr o').heap[B]? =some o:=fun B o o' hB hne=>(World.putObj_heap_other hne).trans hB
           refine⟨_,_,f1,rfl, ?_,fun r m s se la hr=> ?_⟩
           ·rw[hJ]
            refine⟨ρ4,s4,h4,L2, ?_,fun z hz=>gL _ (gL2 z hz),⟨?_,fun j' hj'=> ?_⟩,hsm4,f2.stk (stB.trans st4),⟨f2.rel st4.rel,(hgl.mono st4.fr).aside f2,sr4.aside f2,g3.size⟩,⟨m1,hoth3 _ _ _ k1'' (hltL e3)⟩,⟨m3,hsame⟩,⟨m4,hoth3 _ _ _ k4'' (by omega)⟩⟩
            ·have:ks.length - (pre++[j]).length=fu:=by simp;omega
             rw[this]
             exact g1
            ·rw[List.nodup_append]
             exact⟨gp.1,by simp,fun a ha b hb=>by simp only[List.mem_singleton]at hb;subst hb;exact fun e=>hnj (e ▸ ha)⟩
            ·rcases List.mem_append.1 hj' with hj' | hj'
             ·exact gp.2 _ hj'
             ·simp only[List.mem_singleton]at hj';subst hj';exact hjl
           ·obtain⟨i1,i2⟩:=hki r m s se la hr
            exact hoth3 _ _ _ i1 i2
          ·cases g1
    refine⟨w.heap.size+1,[{ target:= .collected w.heap.size,args:= #[] }],W1, { target:= .fn (.func g) #[.pointer (some ⟨b1,0,none⟩)],args:= #[.func (.yield (w.heap.size+1)) #[] #[]] },W1,g,
     #[.func (.yield (w.heap.size+1)) #[] #[],.pointer (some ⟨b1,0,none⟩)],W1, ?_, ?_,fun _ _=>trivial, ?_,(fun e=>by cases e), ?_⟩
    ·rw[← hW1,hrec];exact run_enterLoop_outer _ _ _ _ _
    ·simp only[resolve,hfv]
     simp[go_sem]
    ·simp[invoke,go_sem,eg]
    ·rw[← hLr]
     refine (callsIn_wide (n:=n - 1)).2 (Calls.mono ((callsIn_wide (n:=8)).1 hcall) ?_)
     have hmarks: ∀ (ρ1:Places) (h1:List Obj) (W W':World),Stk k X ρ h w ρ1 h1 W'→NoPl ρ1 Dm→W'.heap[Dm]? =some (.deferred (some []))→MarksOk ρ1 N W' ([{ target:= .collected w.heap.size,args:= #[] }]++a.defers):=fun ρ1 h1 W W' st hno hd=>by
      obtain⟨Ds,d1,d2,d3⟩:=S.marks.fr st.fr
      obtain⟨Ds',d1',d2',d3'⟩:=S.marks
      have hDD:Ds'=Ds:=by
       have:=d1'.symm.trans d1
       exact (List.map_inj_right (fun x y e=>by simpa using e)).1 this
      subst hDD
      refine⟨Dm::Ds',by rw[d1,hDm];rfl,List.nodup_cons.2 ⟨fun hm=> ?_,d2⟩,fun D hD=> ?_⟩
      ·have:=(Array.getElem?_eq_some_iff.1 (d3' Dm hm).2.1).1
       omega
      ·rcases List.mem_cons.1 hD with rfl | hD
       ·exact⟨by have:=S.le;omega,hd,hno⟩
       ·exact d3 D hD
     rintro e W' ⟨⟨v,rfl⟩,pre,hperm,hj⟩
     rw[hJ]at hj
     obtain⟨ρ1,s1,h1,L1,g1,gL,gp,gs,g2,g3,-,⟨n3,k3⟩,⟨n4,k4⟩⟩:=hj
     have hpl:ks.length - pre.length=0:=by have:=hperm.length_eq;simp only[List.length_range]at this;omega
     rw[hpl]at g1
     simp only[rangeK,Option.some.injEq]at g1
     subst g1
     have hin:=gL _ (List.mem_cons_self ..)
     have hel:=run_endLoop (P:=P) k3 (by rw[hrec];simp)
     refine⟨none,_,by rw[hrec]at hel;exact hel, ?_⟩
     have Ae:Aside ρ1 w.heap.size W' (W'.putObj Lr (.loop { rec .ready none with state:= .exhausted })):=Aside.put k3 rfl rfl n3 (by omega)
     have hk4:(W'.putObj Lr (.loop { rec .ready none with state:= .exhausted })).heap[Dm]? =some (.deferred (some [])):=(World.putObj_heap_other (by omega)).trans k4
     rw[hrec]at Ae hk4
     exact hq (.normal,s1,h1) (List.mem_map.2 ⟨_,hin,rfl⟩) ρ1 { a with defers:=[{ target:= .collected w.heap.size,args:= #[] }]++a.defers } _ (Ae.stk g2) ⟨⟨Ae.rel g3.rel,g3.glob.aside Ae,g3.slots.aside Ae,g3.size⟩,hmarks _ _ W' _ (Ae.stk g2) n4 hk4,Nat.le_trans S.le (Ae.stk g2).fr.size⟩
   ·cases hr
 ·cases hr
theorem codeL_does {run:Run} {nt:Nat} {K:Keeps} {Sh:Hints} {F:FuncId} {loopI:(Slots→List Obj→Res)→Slots→List Obj→Res} (hm:P.follows .mixedOrders=true) (hrun:RunOk P G run) (hhas:RunHas P run) (hit: ∀g,chunks G g=true→ChunkOk P g) (hitK: ∀g,keysF G g=true→KeysOk P (textsF G g) g)
 (hloop: ∀ (k:Nat) (rd:Option Nat) (c:Code) (f:Slots→List Obj→Res),Does k P X G nt rd c f→Does k P X G nt rd (.loop c) (loopI f)):
 ∀ (c:Code) (k b:Nat),codeOk P (Sh F) nt c=true→DoesL k P X G nt c (codeL P G K Sh run loopI F k b c):=by
 have base: ∀ (c:Code) (k b:Nat),codeOk P (Sh F) nt c=true→DoesL k P X G nt c fun s h=>(codeV P G K Sh run loopI F k b c s h).map fun r=>[r]:=fun c k b hok=>(codeV_does (K:=K) (Sh:=Sh) (F:=F) hm hrun hhas hit hloop c k b hok (.inl rfl)).toL
 intro c
 induction c with
 |seq x y ihx ihy=>
  intro k b hok n N ρ s h a w l Q hl S hk hq
  simp only[codeL]at hl
  have hok2:=hok
  simp only[codeOk,Bool.and_eq_true]at hok2
  refine wpIn_seq ?_
  cases hf:codeL P G K Sh run loopI F k b x s h with
  |none=>rw[hf]at hl;cases hl
  |some lx=>
   rw[hf]at hl
   simp only[obind]at hl
   refine ihx k b hok2.1 n N ρ s h a w lx _ hf S hk fun r hr=> ?_
   obtain⟨lr,h1,h2⟩:=gather_some hl r hr
   obtain⟨o,s1,h1'⟩:=r
   intro ρ1 a1 w1 st S1
   cases o with
   |normal=>exact ihy k b hok2.2 n N ρ1 s1 h1' a1 w1 lr Q h1 S1 st.le fun r' hr'=>(hq r' (h2 r' hr')).step st
   |exit i=>simp only[Option.some.injEq]at h1;subst h1;exact hq _ (h2 _ (List.mem_cons_self ..)) ρ1 a1 w1 st S1
   |ret=>simp only[Option.some.injEq]at h1;subst h1;exact hq _ (h2 _ (List.mem_cons_self ..)) ρ1 a1 w1 st S1
 |block id c ih=>
  intro k b hok n N ρ s h a w l Q hl S hk hq
  simp only[codeL,Option.map_eq_some_iff]at hl
  obtain⟨l',hf,rfl⟩:=hl
  simp only[codeOk]at hok
  refine wpIn_block ?_
  refine ih k id hok n N ρ s h a w l' _ hf S hk fun r hr=> ?_
  have hq':=hq (leave1 id r) (List.mem_map_of_mem hr)
  obtain⟨o,s1,h1⟩:=r
  intro ρ1 a1 w1 st S1
  cases o with
  |normal=>exact hq' ρ1 a1 w1 st S1
  |exit i=>
   simp only[Out.exit',Exit.inBlock]
   simp only[leave1]at hq'
   split at hq'
   ·rename_i e
    rw[if_pos e]
    exact hq' ρ1 a1 w1 st S1
   ·rename_i e
    rw[if_neg e]
    exact hq' ρ1 a1 w1 st S1
  |ret=>exact hq' ρ1 a1 w1 st S1
 |rangeFunc f ps x y ihx ihy=>
  intro k b hok n N ρ s h a w l Q hl S hk hq
  simp only[codeL]at hl
  cases hi:keysV G h (ev G s f) with
  |none=>rw[hi]at hl;exact base _ k b hok n N ρ s h a w l Q hl S hk hq
  |some q=>
   obtain⟨i,m,ks,bs,ck⟩:=q
   rw[hi]at hl
   simp only at hl
   simp only[codeOk,Bool.and_eq_true]at hok
   obtain⟨⟨⟨⟨f1,f2⟩,hps⟩,ok1⟩,ok2⟩:=hok
   split at hl
   ·rename_i keep p hkp hp
    exact rangeK_does hitK (fun l k=>codeV_does hm hrun hhas hit hloop x k b ok1 (.inr f1)) (fun l k=>codeV_does hm hrun hhas hit hloop y k b ok2 (.inr f2)) hp (by simpa[hp]using hps) hi hl S hk hq
   ·cases hl
 |_=>
  intro k b hok n N ρ s h a w l Q hl S hk hq
  exact base _ k b hok n N ρ s h a w l Q hl S hk hq
end
end Go.Am
namespace Go.Am
section
variable {X:Nat→Nat→Prop} {ρ:Places} {w:World} {P:Program} {f:FuncId}
theorem ins1_perm {α:Type} (le:α→α→Bool) (x:α): ∀l,(ins1 le x l).Perm (x::l)
 |[]=> .refl _
 |y::r=>by
  unfold ins1
  split
  ·exact .refl _
  ·exact (List.Perm.cons y (ins1_perm le x r)).trans (.swap x y r)
theorem isort_perm {α:Type} (le:α→α→Bool): ∀l:List α,(isort le l).Perm l
 |[]=> .refl _
 |x::l=>(ins1_perm le x _).trans ((isort_perm le l).cons x)
theorem ins1_asc {α:Type} {le:α→α→Bool} (ht: ∀a b c,le a b=true→le b c=true→le a c=true) (hl: ∀a b,(le a b || le b a)=true) (x:α): ∀l,l.Pairwise (fun a b=>le a b=true)→(ins1 le x l).Pairwise fun a b=>le a b=true
 |[],_=>by simp[ins1]
 |y::r,h=>by
  obtain⟨h1,h2⟩:=List.pairwise_cons.1 h
  unfold ins1
  split
  ·rename_i e
   refine List.pairwise_cons.2 ⟨fun z hz=> ?_,h⟩
   rcases List.mem_cons.1 hz with rfl | hz
   ·exact e
   ·exact ht _ _ _ e (h1 z hz)
  ·rename_i e
   refine List.pairwise_cons.2 ⟨fun z hz=> ?_,ins1_asc ht hl x r h2⟩
   rcases List.mem_cons.1 ((ins1_perm le x r).mem_iff.1 hz) with rfl | hz
   ·have:=hl z y
    simp only[Bool.or_eq_true]at this
    exact this.resolve_left e
   ·exact h1 z hz
theorem isort_asc {α:Type} {le:α→α→Bool} (ht: ∀a b c,le a b=true→le b c=true→le a c=true) (hl: ∀a b,(le a b || le b a)=true): ∀l,(isort le l).Pairwise fun a b=>le a b=true
 |[]=> .nil
 |x::l=>ins1_asc ht hl x _ (isort_asc ht hl l)
theorem isort_eq {α:Type} {le:α→α→Bool} (ht: ∀a b c,le a b=true→le b c=true→le a c=true) (hl: ∀a b,(le a b || le b a)=true) (ha: ∀a b,le a b=true→le b a=true→a=b) (l:List α):l.mergeSort le=isort le l:=
 List.Perm.eq_of_pairwise (fun a b _ _=>ha a b) (List.pairwise_mergeSort ht hl l) (isort_asc ht hl l) ((List.mergeSort_perm l le).trans (isort_perm le l).symm)
theorem leI_iff {a b:Int}:leI a b=true↔a≤b:=decide_eq_true_iff
theorem leS_iff {a b:List UInt8}:leS a b=true↔a≤b:=decide_eq_true_iff
theorem leI_ms (l:List Int):l.mergeSort leI=isort leI l:=
 isort_eq (le:=leI) (fun a b c h1 h2=>by simp only[leI_iff]at *;omega) (fun a b=>by simp only[Bool.or_eq_true,leI_iff];omega) (fun a b h1 h2=>by simp only[leI_iff]at *;omega) l
theorem leS_ms (l:List (List UInt8)):l.mergeSort leS=isort leS l:=
 isort_eq (le:=leS) (fun a b c h1 h2=>leS_iff.2 (List.le_trans (leS_iff.1 h1) (leS_iff.1 h2))) (fun a b=>by simp only[Bool.or_eq_true,leS_iff];exact List.le_total a b) (fun a b h1 h2=>List.le_antisymm (leS_iff.1 h1) (leS_iff.1 h2)) l
structure Sorter {α:Type} [Inhabited α] (P:Program) (f:FuncId) (enc:α→Value) (le:α→α→Bool):Prop where
 has : ∃ fn, P.funcs[f]? = some fn ∧ (fn.name == "runtime.NumGoroutine") = false ∧ fn.body.isNone = false
 some: ∀ (blk off cap:Nat) (zs:List α) (w:World),Sort.Holds enc w blk off zs.toArray→blk<w.heap.size→zs.length<4611686018427387904→
  Calls P f #[.slice (some ⟨blk,off,none⟩) zs.length cap] w fun e w'=>e= .returned (.tuple #[])∧ ∃n os,w'=Sort.grow (Sort.putRow enc (Sort.ahead w n) blk off (zs.mergeSort le).toArray) os
 none: ∀ (p:Option Addr) (cap:Nat) (w:World),Calls P f #[.slice p 0 cap] w fun e w'=>e= .returned (.tuple #[])∧w'=w
theorem flat_map_cell {α:Type} {dec:α→D} (h1: ∀a,(dec a).isCell=true): ∀zs:List α,flat (zs.map dec)=zs.map dec
 |[]=>rfl
 |z::zs=>by
  have:=flat_map_cell h1 zs
  simp only[flat,List.map_cons,List.flatMap_cons,D.cells_one (h1 z)]at this ⊢
  rw[this];rfl
theorem sorter_ok {α:Type} [Inhabited α] {enc:α→Value} {dec:α→D} {le:α→α→Bool} (h1: ∀a,(dec a).isCell=true) (h2: ∀M w a,Rep M w (enc a) (dec a)) (h3: ∀M w v a,Rep M w v (dec a)→v=enc a)
 (hs:Sorter P f enc le) {zs:List α} (hz:zs.length≤65536) {vs:List Value} (H:HRel X ρ [.arr 1 (zs.map dec) 0] w) (ha:ArgRel X ρ [.arr 1 (zs.map dec) 0] w vs [.arr 0 zs.length]):
 Calls P f vs.toArray w fun e w'=> ∃ρ' rv,e= .returned rv∧Stp X ρ [.arr 1 (zs.map dec) 0] w ρ' [.arr 1 ((zs.mergeSort le).map dec) 0] w'∧RetRel X ρ' [.arr 1 ((zs.mergeSort le).map dec) 0] w' rv []:=by
 obtain⟨v,e,hv⟩:=ha.2 0 _ rfl
 have hvs:vs=[v]:=by
  have:=ha.1
  match vs,this,e with
  |[u],_,e=>simpa using e
 subst hvs
 obtain⟨-,sz,xs,wm,r,g1,g2,-,g4⟩:=hv
 simp only[List.getElem?_cons_zero,Option.some.injEq,Obj.arr.injEq]at g1
 obtain⟨rfl,rfl,rfl⟩:=g1
 replace g4:=g4 (by simp)
 have hret: ∀ρ' h' w',RetRel X ρ' h' w' (.tuple #[]) []:=fun _ _ _=>⟨[],rfl,fun j R hj=>by simp at hj,rfl⟩
 rcases Nat.eq_zero_or_pos zs.length with h0 | h0
 ·have:zs=[]:=List.eq_nil_of_length_eq_zero h0
  subst this
  obtain⟨p,cap,rfl⟩: ∃p cap,v= .slice p 0 cap:=by
   cases r with
   |none=>obtain⟨-,a,rfl⟩:=g4;exact⟨a,0,rfl⟩
   |some q=>exact⟨_,_,g4⟩
  refine (hs.none p cap w).mono ?_
  rintro e w' ⟨rfl,rfl⟩
  exact⟨ρ,_,rfl,by simpa using Stp.refl H,hret _ _ _⟩
 ·obtain⟨r',q1,q2⟩:=H.obj 0 _ rfl
  rw[g2]at q1;cases q1
  cases r with
  |none=>have:=q2.2;simp at this;subst this;simp at h0
  |some q=>
   obtain⟨b,cap⟩:=q
   obtain⟨-,cur,et,fz,m1,m2,m3,m4,m5,m6,m7,m8⟩:=q2
   have hv':v= .slice (some ⟨b,0,none⟩) zs.length cap:=g4
   subst hv'
   rw[List.length_map]at m3
   rw[flat_map_cell h1]at m8
   have hlt:=H.lt g2
   have hH:Sort.Holds enc w b 0 zs.toArray:=fun j hj=>by
    simp only[List.size_toArray]at hj
    obtain⟨u,f1,f2,f3⟩:=m8 j (dec zs[j]) (by simp[hj])
    have:=h3 _ _ _ _ f2
    subst this
    refine⟨?_, ?_⟩
    ·rw[Nat.zero_add,cell_of_heap m1,f1,getElem!_pos zs.toArray j (by simpa using hj)];simp
    ·rw[Nat.zero_add];exact m7.get j (by omega)
   refine (hs.some b 0 cap zs w hH hlt (by omega)).mono ?_
   rintro e w' ⟨rfl,n,os,rfl⟩
   have hlen:(zs.mergeSort le).length=zs.length:=List.length_mergeSort ..
   generalize zs.mergeSort le=zs' at hlen ⊢
   have hold: ∀k,k<w.heap.size→(Sort.grow (Sort.putRow enc (Sort.ahead w n) b 0 zs'.toArray) os).heap[k]? =(w.heap.modify b (Sort.onCells (Sort.putCells enc 0 zs'.toArray)))[k]? :=fun k hk=>by
    rw[Sort.heap_grow_old]
    ·rfl
    ·simpa[Sort.putRow,Sort.mapBlock,Sort.ahead]using hk
   have hb:(Sort.grow (Sort.putRow enc (Sort.ahead w n) b 0 zs'.toArray) os).heap[b]? =some (.cells (Sort.putCells enc 0 zs'.toArray cur) et fz):=by
    rw[hold b hlt,Array.getElem?_modify,if_pos rfl,m1];rfl
   have hsz:(Sort.putCells enc 0 zs'.toArray cur).size=cur.size:=by simp[Sort.putCells]
   have st:=step_set (w':=Sort.grow (Sort.putRow enc (Sort.ahead w n) b 0 zs'.toArray) os) (r':=some (b,cap)) (o:= .arr 1 (zs.map dec) 0) (o':= .arr 1 (zs'.map dec) 0) H rfl g2 rfl rfl rfl
    (by simp[Sort.grow,Sort.putRow,Sort.mapBlock,Sort.ahead])
    (fun k hk hk'=>by rw[hold k hk,Array.getElem?_modify,if_neg fun e=>hk' cap (by rw[e])]) (.inl rfl)
    (fun j u b' c' _ hmu _=>absurd (Nat.zero_le j) (by simpa[Obj.mutAt]using hmu)) (fun _ j hj=>hj) ⟨rfl,by simp[hlen],fun _=>rfl⟩
    (fun hf he=>⟨Nat.zero_le _,_,et,fz,hb,by rw[hsz,m2],by simpa[hlen]using m3,m4,m5,fun x hx=>by
      simp only[List.mem_map]at hx
      obtain⟨a,_,rfl⟩:=hx
      rw[D.cells_one (h1 a)];rfl,by
      rw[hsz]
      intro cs t fz' he'
      rw[hb]at he';cases he'
      exact m7 cur et fz m1,fun j x hj=>by
      rw[flat_map_cell h1,List.getElem?_map,Option.map_eq_some_iff]at hj
      obtain⟨a,ha,rfl⟩:=hj
      have hj:=lt_of_getElem? ha
      refine⟨enc a, ?_,h2 _ _ a,h1 a⟩
      rw[Sort.putCells,Array.getElem?_mapIdx,Array.getElem?_eq_getElem (show j<cur.size by omega),Option.map_some,if_pos (by simp;omega),Nat.sub_zero,getElem!_pos zs'.toArray j (by simpa using hj)]
      simp[(List.getElem?_eq_some_iff.1 ha).2]⟩)
   rw[set_self g2]at st
   exact⟨ρ,_,rfl,⟨st.1,st.2.1,st.2.2⟩,hret _ _ _⟩
theorem intsD_some: ∀ {xs:List D} {zs:List Int},intsD xs=some zs→xs=zs.map fun n=> .int .i64 n
 |[],zs,h=>by simp only[intsD,Option.some.injEq]at h;subst h;rfl
 |x::xs,zs,h=>by
  unfold intsD at h
  split at h
  ·simp only[Option.some.injEq]at h;subst h;rename_i e;cases e
  ·rename_i n xs' e
   cases e
   simp only[Option.map_eq_some_iff]at h
   obtain⟨l,h1,rfl⟩:=h
   rw[intsD_some h1];rfl
  ·cases h
theorem strsD_some: ∀ {xs:List D} {zs:List (List UInt8)},strsD xs=some zs→xs=zs.map strD
 |[],zs,h=>by simp only[strsD,Option.some.injEq]at h;subst h;rfl
 |x::xs,zs,h=>by
  unfold strsD at h
  split at h
  ·rename_i e;cases e
  ·rename_i n xs' e
   cases e
   simp only[Option.map_eq_some_iff]at h
   obtain⟨l,h1,rfl⟩:=h
   rw[strsD_some h1];rfl
  ·cases h
abbrev encT (l:List UInt8):Value:= .string ⟨l.toArray⟩
structure LibIs (P:Program) (G:Nat→Option (List D)) (k:Nat) (f:FuncId):Prop where
 has : ∃ fn, P.funcs[f]? = some fn ∧ (fn.name == "runtime.NumGoroutine") = false ∧ fn.body.isNone = false
 does: ∀ (args rets:List D),libD k args=some rets→ ∀ (M:Nat→Nat→Prop) (w:World) (vs:List Value),vs.length=args.length→(∀ (j:Nat) (x:D),args[j]? =some x→ ∃v,vs[j]? =some v∧Rep M w v x)→
  (∀g cs,G g=some cs→RoVal M w (.pointer (some ⟨g,0,none⟩)) cs)→(∀g cs,G g=some cs→g<100→(G (900+g)).isSome=true→w.cell? ⟨g,cs.length,none⟩=none)→(∀b j,M b j→b<w.heap.size)→
  Calls P f vs.toArray w fun e w'=> ∃us:List Value,e= .returned (oneVal us)∧us.length=rets.length∧(∀ (j:Nat) (x:D),rets[j]? =some x→ ∃u,us[j]? =some u∧Rep M w' u x)∧
   w'.os=w.os∧w'.tape=w.tape∧w'.output=w.output∧w.heap.size≤w'.heap.size∧ ∀b,b<w.heap.size→w'.heap[b]? =w.heap[b]?
structure SortedIs (P:Program) (f g:FuncId):Prop where
 has : ∃ fn, P.funcs[f]? = some fn ∧ (fn.name == "runtime.NumGoroutine") = false ∧ fn.body.isNone = false
 does: ∀ (Bm b ck:Nat) (en:Array MapEntry) (zs:List (List UInt8)) (w:World),w.cell? ⟨Bm,0,none⟩=some (.map (some b))→w.heap[b]? =some (.map en ck)→(en.toList.map (·.born)).Nodup→(∀e∈en.toList,e.born<ck)→
  en.toList.map (·.key)=zs.map encT→zs.length≤65536→
  Calls P f #[.func (.func g) #[] #[.pointer (some ⟨Bm,0,none⟩)]] w fun e w'=> ∃ (v:Value) (T:TypeId),e= .returned v∧RowKit.Below w.heap.size w w'∧w'.ownsRow w.heap.size T 1 v zs.length ((zs.mergeSort leS).map encT)
def SortOk (P:Program) (G:Nat→Option (List D)) (f:FuncId):Prop:=
 (sorts G f=1→Sorter P f (Value.int .i64) leI)∧(sorts G f=2→Sorter P f encT leS)∧(3≤sorts G f→sorts G f<100→LibIs P G (sorts G f) f)∧(keysF G f=true→KeysOk P (textsF G f) f)∧(sorts G f=100→ ∀g,textsF G g=true→SortedIs P f g)∧
 (sorts G f=100→ ∃g,textsF G g=true)
theorem sorts_cases (G:Nat→Option (List D)) (f:FuncId):sorts G f=0∨sorts G f=1∨sorts G f=2∨3≤sorts G f:=by
 omega
theorem datas_get: ∀ {args:List V} {xs:List D},datas args=some xs→args=xs.map .d
 |[],xs,h=>by simp only[datas,Option.some.injEq]at h;subst h;rfl
 |.d x::r,xs,h=>by
  simp only[datas,Option.map_eq_some_iff]at h
  obtain⟨ys,hy,rfl⟩:=h
  rw[datas_get hy];rfl
 |.nilS::_,_,h | .arr _ _::_,_,h | .sl _ _ _ _::_,_,h | .emp::_,_,h | .ptr _ _::_,_,h | .eptr _ _ _ _::_,_,h | .ro _::_,_,h | .mp _::_,_,h | .clo _ _::_,_,h | .agg _::_,_,h | .tup _::_,_,h | .dead::_,_,h=>by cases h
theorem lib_ok {G:Nat→Option (List D)} {k:Nat} (hs:LibIs P G k f) {args:List V} {h h':List Obj} {rets:List V} (hr:libV k args h=some (rets,h')) {vs:List Value} (H:HRel X ρ h w) (hg:GRel X G ρ h w) (ha:ArgRel X ρ h w vs args):
 Calls P f vs.toArray w fun e w'=> ∃ρ' rv,e= .returned rv∧Stp X ρ h w ρ' h' w'∧RetRel X ρ' h' w' rv rets:=by
 unfold libV at hr
 simp only[Option.bind_eq_some_iff,Option.map_eq_some_iff,Prod.mk.injEq]at hr
 obtain⟨xs,hx,ys,hy,rfl,rfl⟩:=hr
 have:=datas_get hx
 subst this
 refine (hs.does xs ys hy (Mut X ρ h) w vs (by simpa using ha.1) (fun j x hj=> ?_) hg.ro (fun g cs e h1 h2=>(hg.whole g cs e h1 h2).2.2) fun b j hm=> ?_).mono ?_
 ·obtain⟨v,h1,h2⟩:=ha.2 j (.d x) (by simp[hj])
  exact⟨v,h1,h2⟩
 ·rcases hm with hX | ⟨id,c,o,k1,k2,k3⟩
  ·exact H.xlt b j hX
  ·exact H.lt k1
 ·rintro e w' ⟨us,rfl,u1,u2,f1,f2,f3,f4,f5⟩
  have fr:Fr X ρ h w ρ h w':=⟨f1,f2,f3,f4,fun b hb hn=>⟨f5 b hb,hn⟩,fun b j v hm hc=>⟨(World.cell?_of_block (a:=⟨b,j,none⟩) (f5 b (World.block_lt_of_cell? w ⟨b,j,none⟩ hc))).trans hc,hm⟩⟩
  refine⟨ρ,_,rfl,⟨⟨H.len,fun id o ho=> ?_,fun b j hX=>Nat.lt_of_lt_of_le (H.xlt b j hX) f4,H.xown,H.inj⟩,fr,Evo.refl _ _ _⟩,us,by simpa using u1,fun j R hj=> ?_,rfl⟩
  ·obtain⟨r,hr,hrel⟩:=H.obj id o ho
   exact⟨r,hr,hrel.kept fr (Evo.refl _ _ _) fun b c e=>f5 b (H.lt (e ▸ hr))⟩
  ·rw[List.getElem?_map,Option.map_eq_some_iff]at hj
   obtain⟨x,hj,rfl⟩:=hj
   obtain⟨u,h1,h2⟩:=u2 j x hj
   exact⟨u,h1,h2⟩
theorem sortV_some {k:Nat} {args:List V} {h:List Obj} {r:List V × List Obj} (hk3: ¬ 3≤k) (hr:sortV k args h=some r):
 ∃xs,args=[.arr 0 xs.length]∧h=[.arr 1 xs 0]∧xs.length≤65536∧(k=1→ ∃zs:List Int,intsD xs=some zs∧r=([],[.arr 1 ((isort leI zs).map fun n=> .int .i64 n) 0]))∧
  (k≠1→ ∃zs:List (List UInt8),strsD xs=some zs∧r=([],[.arr 1 ((isort leS zs).map strD) 0])):=by
 unfold sortV at hr
 rw[if_neg hk3]at hr
 split at hr
 ·rename_i n xs
  split at hr
  ·rename_i hn
   obtain⟨rfl,hn⟩:=hn
   refine⟨xs,rfl,rfl,hn,fun hk=> ?_,fun hk=> ?_⟩
   ·rw[if_pos hk,Option.map_eq_some_iff]at hr
    obtain⟨zs,h1,rfl⟩:=hr
    exact⟨zs,h1,rfl⟩
   ·rw[if_neg hk,Option.map_eq_some_iff]at hr
    obtain⟨zs,h1,rfl⟩:=hr
    exact⟨zs,h1,rfl⟩
  ·cases hr
 ·cases hr
theorem sort_ok {G:Nat→Option (List D)} (hs:SortOk P G f) (hk:sorts G f≠0) (hk1:sorts G f<100) {args:List V} {h h':List Obj} {rets:List V} (hr:sortV (sorts G f) args h=some (rets,h')):
 ∀ (X:Nat→Nat→Prop) (ρ:Places) (w:World) (vs:List Value),HRel X ρ h w→GRel X G ρ h w→ArgRel X ρ h w vs args→
  Calls P f vs.toArray w fun e w'=> ∃ρ' rv,e= .returned rv∧Stp X ρ h w ρ' h' w'∧RetRel X ρ' h' w' rv rets:=by
 intro X ρ w vs H hg ha
 by_cases h3:3≤sorts G f
 ·unfold sortV at hr
  rw[if_pos h3]at hr
  exact lib_ok (hs.2.2.1 h3 hk1) hr H hg ha
 obtain⟨xs,rfl,rfl,hn,k1,k2⟩:=sortV_some h3 hr
 rcases sorts_cases G f with e | e | e | e
 ·exact absurd e hk
 ·obtain⟨zs,e1,e2⟩:=k1 e
  cases e2
  rw[intsD_some e1,List.length_map]at ha hn
  rw[intsD_some e1]at H ⊢
  rw[← leI_ms]
  exact sorter_ok (fun _=>rfl) (fun _ _ a=> .int _ a) (fun _ _ v a h=>by cases h;rfl) (hs.1 e) hn H ha
 ·obtain⟨zs,e1,e2⟩:=k2 (by omega)
  cases e2
  rw[strsD_some e1,List.length_map]at ha hn
  rw[strsD_some e1]at H ⊢
  rw[← leS_ms]
  exact sorter_ok (fun _=>rfl) (fun _ _ a=> .str _) (fun _ _ v a h=>by cases h;rfl) (hs.2.1 e) hn H ha
 ·exact absurd e h3
theorem sortKV_some {G:Nat→Option (List D)} {args:List V} {h h':List Obj} {rets:List V} (hr:sortKV G args h=some (rets,h')): ∃g i m ks bs ck zs,args=[.clo g [.ptr i 0]]∧textsF G g=true∧keysV G h (.clo g [.ptr i 0])=some (i,m,ks,bs,ck)∧
 strsD ks=some zs∧zs.length≤65536∧rets=[.d (.list ((isort leS zs).map strD))]∧h'=h:=by
 unfold sortKV at hr
 split at hr
 ·rename_i g caps
  split at hr
  ·rename_i hg
   split at hr
   ·rename_i i m ks bs ck hk
    simp only[Option.bind_eq_some_iff]at hr
    obtain⟨zs,hz,hr⟩:=hr
    split at hr
    ·rename_i hl
     simp only[Option.some.injEq,Prod.mk.injEq]at hr
     obtain⟨rfl,rfl⟩:=hr
     obtain⟨g',es,hf,-⟩:=keysV_some hk
     cases hf
     exact⟨g,i,m,ks,bs,ck,zs,rfl,hg,hk,hz,hl,rfl,rfl⟩
    ·cases hr
   ·cases hr
  ·cases hr
 ·cases hr
theorem sortK_ok {G:Nat→Option (List D)} (hs:SortOk P G f) (hk:sorts G f=100) {args:List V} {h h':List Obj} {rets:List V} (hr:sortKV G args h=some (rets,h')):
 ∀ (X:Nat→Nat→Prop) (ρ:Places) (w:World) (vs:List Value),HRel X ρ h w→ArgRel X ρ h w vs args→
  Calls P f vs.toArray w fun e w'=> ∃ρ' rv,e= .returned rv∧Stp X ρ h w ρ' h' w'∧RetRel X ρ' h' w' rv rets:=by
 intro X ρ w vs H ha
 obtain⟨g,i,m,ks,bs,ck,zs,rfl,hg,hkv,hz,hl,rfl,rfl⟩:=sortKV_some hr
 obtain⟨g',es,hf,-,ho1,ho2,hks,hnd,hck,-⟩:=keysV_some hkv
 cases hf
 obtain⟨v,hv,hrel⟩:=ha.2 0 _ rfl
 have hvs:vs=[v]:=by
  have:=ha.1
  match vs,this,hv with
  |[u],_,e=>simpa using e
 subst hvs
 obtain⟨us,rfl,hus,hc⟩:=hrel
 obtain⟨u1,hu1,o1,b1,c1,-,-,e3,rfl⟩:=hc 0 (.ptr i 0) rfl
 have hus':us= #[.pointer (some ⟨b1,0,none⟩)]:=by
  apply Array.ext
  ·simpa using hus
  ·intro t ht1 ht2
   have:t=0:=by simp at ht2;omega
   subst this
   rw[Array.getElem?_eq_getElem ht1]at hu1;simpa using hu1
 subst hus'
 obtain⟨v1,hc1,r1⟩:=box_cell H ho1 e3
 obtain⟨bm,cm,hv1,hpm⟩: ∃bm cm:Nat,v1= .map (some bm)∧ρ[m]? =some (some (bm,cm)):=by
  rcases (show V0 X ρ h' w v1 (.mp m) from r1) with ⟨cs,b,c,k1,_⟩ | ⟨es',bs',ck',b,c,k1,k2,rfl⟩
  ·rw[ho2]at k1;cases k1
  ·exact⟨b,c,rfl,k2⟩
 subst hv1
 obtain⟨en,q1,q2,q3,q4⟩:=map_at H ho2 hpm
 have hkey:en.toList.map (·.key)=zs.map encT:=by
  rw[strsD_some hz]at hks
  apply List.ext_getElem?
  intro j
  by_cases hj:j<zs.length
  ·obtain⟨e,f1,f2⟩:=q4 j (strD zs[j]) (by rw[← hks];simp[hj])
   have:e.key=encT zs[j]:=by generalize e.key=u at f2;cases f2;rfl
   have f1':en.toList[j]? =some e:=by simpa using f1
   simp[hj,f1',this]
  ·have hlen:en.size=zs.length:=by rw[q3];have:=congrArg List.length hks;simpa using this.symm
   rw[List.getElem?_eq_none (by simp;omega),List.getElem?_eq_none (by simp;omega)]
 refine ((hs.2.2.2.2.1 hk g hg).does b1 bm ck en zs w hc1 q1 (by rw[q2];exact hnd) (fun e he=>hck _ (by rw[← q2];exact List.mem_map_of_mem he)) hkey hl).mono ?_
 rintro e w' ⟨v,T,rfl,hb,hrow⟩
 have fr:Fr X ρ h' w ρ h' w':=⟨hb.os,hb.tape,hb.output,hb.size,fun b hb' hn=>⟨hb.block b hb',hn⟩,fun b j v hm hc=>⟨(World.cell?_of_block (a:=⟨b,j,none⟩) (hb.block b (World.block_lt_of_cell? w ⟨b,j,none⟩ hc))).trans hc,hm⟩⟩
 refine⟨ρ,_,rfl,⟨⟨H.len,fun id o ho=> ?_,fun b j hX=>Nat.lt_of_lt_of_le (H.xlt b j hX) hb.size,H.xown,H.inj⟩,fr,Evo.refl _ _ _⟩,[v],rfl,fun j R hj=> ?_,rfl⟩
 ·obtain⟨r,hr,hrel⟩:=H.obj id o ho
  exact⟨r,hr,hrel.kept fr (Evo.refl _ _ _) fun b c e=>hb.block b (H.lt (e ▸ hr))⟩
 ·match j with
  |j+1=>simp at hj
  |0=>
  simp only[List.getElem?_cons_zero,Option.some.injEq]at hj
  subst hj
  refine⟨v,rfl, ?_⟩
  rw[← leS_ms]
  have hlm:(zs.mergeSort leS).length=zs.length:=List.length_mergeSort ..
  generalize zs.mergeSort leS=ys at hrow hlm
  show Rep (Mut X ρ h') w' v (.list (ys.map strD))
  rcases hrow.2 with ⟨rfl,hz0⟩ | ⟨gb,cap,cur,rfl,hbase,hgb,r1,r2,r3,r4⟩
  ·have:ys=[]:=List.eq_nil_of_length_eq_zero (by omega)
   subst this
   exact Rep.nil none 0 fun _=>rfl
  ·have hnm: ∀j,¬ Mut X ρ h' gb j:=fun j hm=>by
    rcases hm with hX | ⟨id,c,o,k1,k2,k3⟩
    ·have:=H.xlt _ _ hX;omega
    ·have:=H.lt k1;omega
   have hfl:flat (ys.map strD)=ys.map strD:=flat_map_cell (fun _=>rfl) ys
   refine Rep.list gb 0 zs.length cap 1 (ys.map strD) (fun j=>encT (ys.getD j [])) (by simp[hlm]) r1 (fun x hx=> ?_) (fun j c hj=> ?_) (fun j c hj=> ?_)
   ·obtain⟨a,_,rfl⟩:=List.mem_map.1 hx;rfl
   ·rw[hfl,List.getElem?_map,Option.map_eq_some_iff]at hj
    obtain⟨a,hj,rfl⟩:=hj
    refine⟨?_,hnm _,rfl⟩
    have hjl:=lt_of_getElem? hj
    have:(cur.toList.take (zs.length*1))[j]? =some (encT a):=by rw[r4,List.getElem?_map,hj];rfl
    rw[List.getElem?_take,if_pos (by omega)]at this
    rw[Nat.zero_add,cell_of_heap hgb]
    rw[List.getD_eq_getElem?_getD,hj]
    simpa using this
   ·rw[hfl,List.getElem?_map,Option.map_eq_some_iff]at hj
    obtain⟨a,hj,rfl⟩:=hj
    rw[List.getD_eq_getElem?_getD,hj]
    exact Rep.str _
end
end Go.Am
namespace Go.Am
section
variable {X:Nat→Nat→Prop} {ρ ρ' ρ'':Places} {h h' h'' h2:List Obj} {w w' w'':World} {k:Nat} {P:Program} {G:Nat→Option (List D)}
theorem loadAt_loadVar {t:TypeId} {v u:Value} (hr:(Instr.loadAt t v).run P w= .ok u w):(do loadVar t (← asAddr v)).run P w= .ok u w:=by
 cases v with
 |pointer a=>
  cases a with
  |none=>simp[Instr.loadAt,Instr.sureAddr]at hr
  |some a=>simpa[Instr.loadAt,Instr.sureAddr,asAddr]using hr
 |_=>simp[Instr.loadAt,Instr.sureAddr]at hr
def resultOf (tmps:Array Value):ResultVar→Sem Value
 |.tmp t=>pure (tmps.getD t undef)
 |.cell a t=>do loadVar t (← asAddr (tmps.getD a undef))
theorem resV_sound {tmps:Array Value} {s:Slots} (H:HRel X ρ h w) (hs:SRel X ρ h w tmps s): ∀ (l:List ResultVar) (vs:List V),resV P s h l=some vs→
 ∃us:List Value,(l.mapM (resultOf tmps)).run P w= .ok us w∧ArgRel X ρ h w us vs
 |[],vs,hr=>by
  simp only[resV,Option.some.injEq]at hr;subst hr
  exact⟨[],by simp,rfl,fun j A hj=>by simp at hj⟩
 |.tmp t::l,vs,hr=>by
  simp only[resV,Option.map_eq_some_iff]at hr
  obtain⟨vs',hr',rfl⟩:=hr
  obtain⟨us,h1,h2,h3⟩:=resV_sound H hs l vs' hr'
  refine⟨tmps.getD t undef::us,by simp[resultOf,h1],by simp[h2],fun j A hj=> ?_⟩
  cases j with
  |zero=>simp only[List.getElem?_cons_zero,Option.some.injEq]at hj;subst hj;exact⟨_,rfl,hs t⟩
  |succ j=>simpa using h3 j A (by simpa using hj)
 |.cell a t::l,vs,hr=>by
  simp only[resV]at hr
  split at hr
  ·rename_i v vs' hl hr'
   simp only[Option.some.injEq]at hr;subst hr
   obtain⟨us,h1,h2,h3⟩:=resV_sound H hs l vs' hr'
   obtain⟨u,h4,h5⟩:=loadV_sound hl H (hs a)
   have h6:=loadAt_loadVar h4
   refine⟨u::us, ?_,by simp[h2],fun j A hj=> ?_⟩
   ·simp only[List.mapM_cons,resultOf,Sem.run_bind]
    simp only[Sem.run_bind]at h6
    rw[h6]
    simp[h1]
   ·cases j with
    |zero=>simp only[List.getElem?_cons_zero,Option.some.injEq]at hj;subst hj;exact⟨u,rfl,h5⟩
    |succ j=>simpa using h3 j A (by simpa using hj)
  ·cases hr
theorem results_run {fn:Func} {tmps:Array Value} {us:List Value} (hr:(fn.results.toList.mapM (resultOf tmps)).run P w= .ok us w):(results fn tmps).run P w= .ok (oneVal us) w:=by
 have e:results fn tmps=(do let vs ← fn.results.mapM (resultOf tmps);pure (if h:vs.size=1 then vs[0] else .tuple vs)):=by
  unfold results
  congr 1
 rw[e,Array.mapM_eq_mapM_toList]
 simp only[Sem.run_bind,Sem.run_map,hr]
 match us with
 |[]=>simp[oneVal]
 |[v]=>simp[oneVal]
 |v::u::us=>simp[oneVal]
theorem solid_sound: ∀ (vs:List V) (ts:List TypeId) (ρ:Places) (h:List Obj) (us:List Value),HRel X ρ h w→ArgRel X ρ h w us vs→
 ∃ρ',Stp X ρ h w ρ' (solid P h vs ts).2 w∧ArgRel X ρ' (solid P h vs ts).2 w us (solid P h vs ts).1
 |[],ts,ρ,h,us,H,ha=>⟨ρ,Stp.refl H,ha⟩
 |v::vs,ts,ρ,h,us,H,⟨hl,hg⟩=>by
  match us,hl,hg with
  |u::us,hl,hg=>
  obtain⟨u',e,hv⟩:=hg 0 v (by simp)
  simp only[List.getElem?_cons_zero,Option.some.injEq]at e;subst e
  have tail:ArgRel X ρ h w us vs:=⟨by simpa using hl,fun j A hj=>by simpa using hg (j+1) A (by simpa using hj)⟩
  simp only[solid]
  split
  ·obtain⟨n1,n2⟩:=new_nil H (elemSize P (ts.headD 0))
   have hu:u= .slice none 0 0:=hv
   subst hu
   obtain⟨ρ',s1,l1,r1⟩:=solid_sound vs ts.tail _ _ us n1.rel ⟨tail.1,fun j A hj=>let ⟨v,a,b⟩:=tail.2 j A hj;⟨v,a,n1.vrel b⟩⟩
   refine⟨ρ',n1.trans H s1,by simp[l1],fun j A hj=> ?_⟩
   cases j with
   |zero=>simp only[List.getElem?_cons_zero,Option.some.injEq]at hj;subst hj;exact⟨_,rfl,s1.vrel n2⟩
   |succ j=>simpa using r1 j A (by simpa using hj)
  ·obtain⟨ρ',s1,l1,r1⟩:=solid_sound vs ts.tail _ _ us H tail
   refine⟨ρ',s1,by simp[l1],fun j A hj=> ?_⟩
   cases j with
   |zero=>simp only[List.getElem?_cons_zero,Option.some.injEq]at hj;subst hj;exact⟨_,rfl,s1.vrel hv⟩
   |succ j=>simpa using r1 j A (by simpa using hj)
theorem finish_sound {ts:List TypeId} {vs ws:List V} {us:List Value} (hx:finish P k ts vs h=some (ws,h2)) (H:HRel X ρ h w) (ha:ArgRel X ρ h w us vs) (hk:k≤h.length):
 ∃ρ2,Stk k X ρ h w ρ2 h2 w∧RetRel X ρ2 h2 w (oneVal us) ws:=by
 unfold finish at hx
 obtain⟨ρ1,s1,r1⟩:=solid_sound (P:=P) vs ts ρ h us H ha
 generalize solid P h vs ts=p at*
 simp only at hx
 obtain⟨r,hr⟩:=reach_range p.2 k (p.1.flatMap V.ids)
 have hn:(reach p.2 (addIds (List.range k) (p.1.flatMap V.ids))).Nodup:=reach_nodup _ (addIds_nodup _ _ List.nodup_range)
 generalize reach p.2 (addIds (List.range k) (p.1.flatMap V.ids))=ids at*
 split at hx
 ·rename_i s3 h3 e1 e2
  simp only[Option.some.injEq,Prod.mk.injEq]at hx
  obtain⟨rfl,rfl⟩:=hx
  obtain⟨R,st⟩:=drop_step s1.rel hn e2 hr
  obtain⟨m1,m2⟩:=mapM_get e1
  refine⟨_,(s1.stk H hk).trans st,us,by rw[r1.1,m1],fun j B hj=> ?_,rfl⟩
  obtain⟨A,hA,hAr⟩:=m2 j B hj
  obtain⟨u,hu,hv⟩:=r1.2 j A hA
  refine⟨u,hu,V2.ren R ?_ hAr⟩
  cases A with
  |tup vs=>simp[V.ren2,V.ren1,V.ren0]at hAr
  |_=>exact hv
 ·cases hx
theorem startSlots_get: ∀ (args:List V) (i t:Nat),sget (startSlots i args) t=if i≤t then args.getD (t - i) .dead else .dead
 |[],i,t=>by simp[startSlots,sget]
 |v::vs,i,t=>by
  simp only[startSlots,sget]
  rw[startSlots_get vs (i+1) t]
  by_cases e:i=t
  ·subst e;simp
  ·rw[if_neg e]
   by_cases h1:i≤t
   ·rw[if_pos h1,if_pos (by omega),show t - i=t - (i+1)+1 by omega,List.getD_cons_succ]
   ·rw[if_neg h1,if_neg (by omega)]
theorem leaves_marks {n:Nat} {fn:Func} {tmps:Array Value} {R:Ending→World→Prop} {N:Nat} {Z:World→Prop} (hZ: ∀ (W:World) (D:Nat),Z W→N≤D→W.heap[D]? =some (.deferred (some []))→NoPl ρ D→Z (W.putObj D (.deferred none)))
 (hR: ∀W,Z W→ ∃v,(results fn tmps).run P W= .ok v W∧R (.returned v) W):
 ∀ (Ds:List Nat) (W:World),Z W→Ds.Nodup→(∀D∈Ds,N≤D∧W.heap[D]? =some (.deferred (some []))∧NoPl ρ D)→
  LeavesInM (Fw none) n P fn tmps R (Ds.map fun D=> { target:= .collected D,args:= #[] }) .returning W
 |[],W,hz,_,_=>hR W hz
 |D::Ds,W,hz,hn,hd=>by
  obtain⟨h1,h2⟩:=List.nodup_cons.1 hn
  obtain⟨d1,d2,d3⟩:=hd D (List.mem_cons_self ..)
  refine⟨by simp,.inl ⟨D,_,rfl,run_takeDeferred d2,leaves_marks hZ hR Ds _ (hZ W D hz d1 d2 d3) h2 fun D' hD'=> ?_⟩⟩
  obtain⟨e1,e2,e3⟩:=hd D' (List.mem_cons_of_mem _ hD')
  exact⟨e1,(World.putObj_heap_other (show D'≠D from fun e=>h1 (by rw[← e];exact hD'))).trans e2,e3⟩
theorem bodyV_ok {run:Run} {K:Keeps} {Sh:Hints} (hit: ∀g,chunks G g=true→ChunkOk P g) (hm:P.follows .mixedOrders=true) {loopI:(Slots→List Obj→Res)→Slots→List Obj→Res} (hrun:RunOk P G run) (hhas:RunHas P run)
 (hloop: ∀ (k nt:Nat) (X:Nat→Nat→Prop) (rd:Option Nat) (c:Code) (f:Slots→List Obj→Res),Does k P X G nt rd c f→Does k P X G nt rd (.loop c) (loopI f)):
 RunOk P G (bodyV P G K Sh run loopI)∧RunHas P (bodyV P G K Sh run loopI):=by
 have open' : ∀ f args h r, bodyV P G K Sh run loopI f args h = some r → ∃ fn c, P.funcs[f]? = some fn ∧ fn.body = some c ∧ (fn.name == "runtime.NumGoroutine") = false ∧ codeOk P (Sh f) fn.ntmps c = true ∧
  args.length≤fn.ntmps∧endV P fn h.length (codeV P G K Sh run loopI f h.length 0 c (startSlots 0 args) h)=some r:=fun f args h r hr=>by
  unfold bodyV at hr
  split at hr
  ·cases hr
  ·rename_i fn hf
   split at hr
   ·cases hr
   ·rename_i c hb
    split at hr
    ·rename_i hc
     simp only[Bool.and_eq_true,decide_eq_true_eq,Bool.not_eq_true']at hc
     exact⟨fn,c,hf,hb,hc.2,hc.1.1,hc.1.2,hr⟩
    ·cases hr
 refine⟨fun f args h rets h' hr X ρ w vs H hg ha=> ?_,fun f args h r hr=> ?_⟩
 ·obtain⟨fn,c,hf,hb,_,hok,hle,he⟩:=open' _ _ _ _ hr
  refine (callsIn_wide (n:=9)).1 (callsIn_of_wp_marks (F:=Fw none) hf hb trivial ?_)
  have S:St X G fn.ntmps ρ h w { tmps:=vs.toArray++Array.replicate (fn.ntmps - vs.toArray.size) undef,defers:=[] } (startSlots 0 args):=by
   refine⟨H,hg,fun t=> ?_, ?_⟩
   ·rw[startSlots_get,if_pos (Nat.zero_le _),Nat.sub_zero]
    rcases Nat.lt_or_ge t args.length with ht | ht
    ·obtain⟨v,h1,h2⟩:=ha.2 t args[t] (by simp[ht])
     have h3:args.getD t .dead=args[t]:=by simp[List.getD_eq_getElem?_getD,ht]
     rw[h3,Array.getD_eq_getD_getElem?,Array.getElem?_append_left (by simpa[ha.1]using ht),List.getElem?_toArray,h1]
     exact h2
    ·have h3:args.getD t .dead= .dead:=by simp[List.getD_eq_getElem?_getD,List.getElem?_eq_none ht]
     rw[h3];trivial
   ·have:=ha.1
    simp only[Array.size_append,List.size_toArray,Array.size_replicate]
    omega
  cases hcv:codeV P G K Sh run loopI f h.length 0 c (startSlots 0 args) h with
  |none=>rw[hcv]at he;cases he
  |some q=>
   obtain⟨o,s1,h1⟩:=q
   rw[hcv]at he
   refine codeV_does hm hrun hhas hit (fun k rd c f=>hloop k _ _ rd c f) c _ 0 hok (.inl rfl) 9 w.heap.size ρ _ h _ w _ _ hcv ⟨S,⟨[],rfl,List.nodup_nil,fun _ h=>by cases h⟩,Nat.le_refl _⟩ (Nat.le_refl _) fun ρ1 a1 w1 st S1=> ?_
   have key:obind (resV P s1 h1 fn.results.toList) (fun vs=>finish P h.length fn.resultTypes.toList vs h1)=some (rets,h')→
    LeavesInM (Fw none) 9 P fn a1.tmps (fun e w'=> ∃ρ' rv,e= .returned rv∧Stp X ρ h w ρ' h' w'∧RetRel X ρ' h' w' rv rets) a1.defers .returning w1:=fun he=>by
    obtain⟨Ds,d1,d2,d3⟩:=S1.marks
    rw[d1]
    refine leaves_marks (ρ:=ρ1) (N:=w.heap.size) (Z:=fun W=>Stk h.length X ρ h w ρ1 h1 W∧SRel X ρ1 h1 W a1.tmps s1) (fun W D hz hN hD hno=> ?_) (fun W hz=> ?_) Ds w1 ⟨st,S1.st.slots⟩ d2 d3
    ·have A:Aside ρ1 w.heap.size W (W.putObj D (.deferred none)):=Aside.put hD rfl rfl hno hN
     exact⟨A.stk hz.1,hz.2.aside A⟩
    ·obtain⟨stW,srW⟩:=hz
     cases hres:resV P s1 h1 fn.results.toList with
     |none=>rw[hres]at he;cases he
     |some rs=>
      rw[hres]at he
      obtain⟨us,r1,r2⟩:=resV_sound stW.rel srW _ _ hres
      obtain⟨ρ2,st2,rr⟩:=finish_sound he stW.rel r2 stW.le
      have st3:=stW.trans st2
      exact⟨_,results_run r1,ρ2,_,rfl,⟨st3.rel,st3.fr,st3.evo⟩,rr⟩
   cases o with
   |normal=>exact key he
   |exit i=>simp[endV]at he
   |ret=>exact key he
 ·obtain⟨fn,c,hf,hb,hname,_⟩:=open' _ _ _ _ hr
  exact⟨fn,hf,hname,by rw[hb];rfl⟩
theorem sameEnds_some {e:Option (List V × List Obj)} {end1:Out × Slots × List Obj→Option (List V × List Obj)}: ∀ {l:List (Out × Slots × List Obj)},sameEnds e end1 l=true→ ∀r∈l,end1 r=e
 |[],_,r,hr=>by cases hr
 |z::zs,hs,r,hr=>by
  simp only[sameEnds,Bool.and_eq_true,decide_eq_true_eq]at hs
  rcases List.mem_cons.1 hr with rfl | hr
  ·exact hs.1
  ·exact sameEnds_some hs.2 r hr
theorem bodyK_ok {run:Run} {K:Keeps} {Sh:Hints} (hit: ∀g,chunks G g=true→ChunkOk P g) (hitK: ∀g,keysF G g=true→KeysOk P (textsF G g) g) (hm:P.follows .mixedOrders=true) {loopI:(Slots→List Obj→Res)→Slots→List Obj→Res} (hrun:RunOk P G run) (hhas:RunHas P run)
 (hloop: ∀ (k nt:Nat) (X:Nat→Nat→Prop) (rd:Option Nat) (c:Code) (f:Slots→List Obj→Res),Does k P X G nt rd c f→Does k P X G nt rd (.loop c) (loopI f)):
 RunOk P G (bodyK P G K Sh run loopI)∧RunHas P (bodyK P G K Sh run loopI):=by
 have open' : ∀ f args h r, bodyK P G K Sh run loopI f args h = some r → ∃ fn c, P.funcs[f]? = some fn ∧ fn.body = some c ∧ (fn.name == "runtime.NumGoroutine") = false ∧ codeOk P (Sh f) fn.ntmps c = true ∧
  args.length≤fn.ntmps∧ ∃l,codeL P G K Sh run loopI f h.length 0 c (startSlots 0 args) h=some l∧ ∀q∈l,endV P fn h.length (some q)=some r:=fun f args h r hr=>by
  unfold bodyK at hr
  split at hr
  ·cases hr
  ·rename_i fn hf
   split at hr
   ·cases hr
   ·rename_i c hb
    split at hr
    ·rename_i hc
     simp only[Bool.and_eq_true,decide_eq_true_eq,Bool.not_eq_true']at hc
     refine⟨fn,c,hf,hb,hc.2,hc.1.1,hc.1.2, ?_⟩
     unfold endL at hr
     split at hr
     ·rename_i q qs hl
      refine⟨_,hl, ?_⟩
      cases he:endV P fn h.length (some q) with
      |none=>rw[he]at hr;cases hr
      |some e=>
       rw[he]at hr
       simp only[obind]at hr
       split at hr
       ·rename_i hs
        simp only[Option.some.injEq]at hr
        subst hr
        intro q' hq'
        rcases List.mem_cons.1 hq' with rfl | hq'
        ·exact he
        ·exact sameEnds_some hs q' hq'
       ·cases hr
     ·cases hr
    ·cases hr
 refine⟨fun f args h rets h' hr X ρ w vs H hg ha=> ?_,fun f args h r hr=> ?_⟩
 ·obtain⟨fn,c,hf,hb,_,hok,hle,l,hcl,he⟩:=open' _ _ _ _ hr
  refine (callsIn_wide (n:=9)).1 (callsIn_of_wp_marks (F:=Fw none) hf hb trivial ?_)
  have S:St X G fn.ntmps ρ h w { tmps:=vs.toArray++Array.replicate (fn.ntmps - vs.toArray.size) undef,defers:=[] } (startSlots 0 args):=by
   refine⟨H,hg,fun t=> ?_, ?_⟩
   ·rw[startSlots_get,if_pos (Nat.zero_le _),Nat.sub_zero]
    rcases Nat.lt_or_ge t args.length with ht | ht
    ·obtain⟨v,h1,h2⟩:=ha.2 t args[t] (by simp[ht])
     have h3:args.getD t .dead=args[t]:=by simp[List.getD_eq_getElem?_getD,ht]
     rw[h3,Array.getD_eq_getD_getElem?,Array.getElem?_append_left (by simpa[ha.1]using ht),List.getElem?_toArray,h1]
     exact h2
    ·have h3:args.getD t .dead= .dead:=by simp[List.getD_eq_getElem?_getD,List.getElem?_eq_none ht]
     rw[h3];trivial
   ·have:=ha.1
    simp only[Array.size_append,List.size_toArray,Array.size_replicate]
    omega
  refine codeL_does (K:=K) (Sh:=Sh) (F:=f) hm hrun hhas hit hitK (fun k rd c f=>hloop k _ _ rd c f) c _ 0 hok 9 w.heap.size ρ _ h _ w l _ hcl ⟨S,⟨[],rfl,List.nodup_nil,fun _ h=>by cases h⟩,Nat.le_refl _⟩ (Nat.le_refl _) fun q hq=> ?_
  have he:=he q hq
  obtain⟨o,s1,h1⟩:=q
  intro ρ1 a1 w1 st S1
  have key:obind (resV P s1 h1 fn.results.toList) (fun vs=>finish P h.length fn.resultTypes.toList vs h1)=some (rets,h')→
   LeavesInM (Fw none) 9 P fn a1.tmps (fun e w'=> ∃ρ' rv,e= .returned rv∧Stp X ρ h w ρ' h' w'∧RetRel X ρ' h' w' rv rets) a1.defers .returning w1:=fun he=>by
   obtain⟨Ds,d1,d2,d3⟩:=S1.marks
   rw[d1]
   refine leaves_marks (ρ:=ρ1) (N:=w.heap.size) (Z:=fun W=>Stk h.length X ρ h w ρ1 h1 W∧SRel X ρ1 h1 W a1.tmps s1) (fun W D hz hN hD hno=> ?_) (fun W hz=> ?_) Ds w1 ⟨st,S1.st.slots⟩ d2 d3
   ·have A:Aside ρ1 w.heap.size W (W.putObj D (.deferred none)):=Aside.put hD rfl rfl hno hN
    exact⟨A.stk hz.1,hz.2.aside A⟩
   ·obtain⟨stW,srW⟩:=hz
    cases hres:resV P s1 h1 fn.results.toList with
    |none=>rw[hres]at he;cases he
    |some rs=>
     rw[hres]at he
     obtain⟨us,r1,r2⟩:=resV_sound stW.rel srW _ _ hres
     obtain⟨ρ2,st2,rr⟩:=finish_sound he stW.rel r2 stW.le
     have st3:=stW.trans st2
     exact⟨_,results_run r1,ρ2,_,rfl,⟨st3.rel,st3.fr,st3.evo⟩,rr⟩
  cases o with
  |normal=>exact key he
  |exit i=>simp[endV]at he
  |ret=>exact key he
 ·obtain⟨fn,c,hf,hb,hname,_⟩:=open' _ _ _ _ hr
  exact⟨fn,hf,hname,by rw[hb];rfl⟩
theorem joinV_some {x y:Option (List V × List Obj)} {r:List V × List Obj} (hj:joinV x y=some r):x=some r∧y=some r:=by
 unfold joinV at hj
 split at hj
 ·rename_i e
  exact⟨hj,e ▸ hj⟩
 ·cases hj
theorem bodyS_cases {run:Run} {K:Keeps} {Sh:Hints} {loopI:(Slots→List Obj→Res)→Slots→List Obj→Res} {f:FuncId} {args:List V} {r:List V × List Obj} (hr:bodyS P G K Sh run loopI f args h=some r):
 (sorts G f≠0∧((sorts G f=101∧bodyK P G K Sh run loopI f args h=some r)∨(sorts G f=100∧sortKV G args h=some r)∨(sorts G f≠101∧sorts G f≠100∧sortV (sorts G f) args h=some r)))∨bodyV P G K Sh run loopI f args h=some r∨ ∃rest,args= .d (.list [])::rest∧bodyV P G K Sh run loopI f (.nilS::rest) h=some r∧bodyV P G K Sh run loopI f (.emp::rest) h=some r:=by
 unfold bodyS at hr
 split at hr
 ·refine .inl ⟨‹_›, ?_⟩
  split at hr
  ·exact .inl ⟨‹_›,hr⟩
  ·split at hr
   ·exact .inr (.inl ⟨‹_›,hr⟩)
   ·exact .inr (.inr ⟨‹_›, ‹_›,hr⟩)
 ·refine .inr ?_
  split at hr
  ·exact .inr ⟨_,rfl,joinV_some hr⟩
  ·exact .inl hr
theorem sorts_small {f:FuncId} (h1:sorts G f≠101) (h2:sorts G f≠100):sorts G f<100:=by
 unfold sorts at h1 h2 ⊢
 unfold libs at h1 h2 ⊢
 repeat' split
 all_goals first
  |omega
  |simp_all
theorem bodyS_ok {run:Run} {K:Keeps} {Sh:Hints} (hso: ∀g,SortOk P G g) (hit: ∀g,chunks G g=true→ChunkOk P g) (hm:P.follows .mixedOrders=true) {loopI:(Slots→List Obj→Res)→Slots→List Obj→Res} (hrun:RunOk P G run) (hhas:RunHas P run)
 (hloop: ∀ (k nt:Nat) (X:Nat→Nat→Prop) (rd:Option Nat) (c:Code) (f:Slots→List Obj→Res),Does k P X G nt rd c f→Does k P X G nt rd (.loop c) (loopI f)):
 RunOk P G (bodyS P G K Sh run loopI)∧RunHas P (bodyS P G K Sh run loopI):=by
 obtain⟨b1,b2⟩:=bodyV_ok (K:=K) (Sh:=Sh) hit hm hrun hhas hloop
 obtain⟨d1,d2⟩:=bodyK_ok (K:=K) (Sh:=Sh) hit (fun g=>(hso g).2.2.2.1) hm hrun hhas hloop
 refine⟨fun f args h rets h' hr X ρ w vs H hg ha=> ?_,fun f args h r hr=> ?_⟩
 ·rcases bodyS_cases hr with ⟨hk,⟨hk1,hr⟩ | ⟨hk1,hr⟩ | ⟨hk1,hk2,hr⟩⟩ | hr | ⟨rest,rfl,hr1,hr2⟩
  ·exact d1 f args h rets h' hr X ρ w vs H hg ha
  ·exact sortK_ok (hso f) hk1 hr X ρ w vs H ha
  ·exact sort_ok (hso f) hk (sorts_small hk1 hk2) hr X ρ w vs H hg ha
  ·exact b1 f args h rets h' hr X ρ w vs H hg ha
  ·obtain⟨v,hv1,hv2⟩:=ha.2 0 _ rfl
   have rest': ∀A,VRel X ρ h w v A→ArgRel X ρ h w vs (A::rest):=fun A hA=>⟨by simpa using ha.1,fun j B hj=>by
    cases j with
    |zero=>simp only[List.getElem?_cons_zero,Option.some.injEq]at hj;subst hj;exact⟨v,hv1,hA⟩
    |succ j=>exact ha.2 (j+1) B (by simpa using hj)⟩
   have hrep:Rep (Mut X ρ h) w v (.list []):=hv2
   cases hrep with
   |nil a c hac=>
    cases a with
    |none=>
     have:=hac rfl
     subst this
     exact b1 f _ h rets h' hr1 X ρ w vs H hg (rest' .nilS rfl)
    |some a=>exact b1 f _ h rets h' hr2 X ρ w vs H hg (rest' .emp ⟨a,c,rfl⟩)
   |list b off len cap sz _ vs' e1 e2 e3 e4 e5=>
    have:len=0:=by simpa using e1
    subst this
    exact b1 f _ h rets h' hr2 X ρ w vs H hg (rest' .emp ⟨_,_,rfl⟩)
 ·rcases bodyS_cases hr with ⟨hk,⟨hk1,hr⟩ | ⟨hk1,hr⟩ | ⟨hk1,hk2,hr⟩⟩ | hr | ⟨rest,rfl,hr1,hr2⟩
  ·exact d2 f args h r hr
  ·obtain⟨g,hg⟩:=(hso f).2.2.2.2.2 hk1
   exact ((hso f).2.2.2.2.1 hk1 g hg).has
  ·rcases sorts_cases G f with e | e | e | e
   ·exact absurd e hk
   ·exact ((hso f).1 e).has
   ·exact ((hso f).2.1 e).has
   ·exact ((hso f).2.2.1 e (sorts_small hk1 hk2)).has
  ·exact b2 f args h r hr
  ·exact b2 f _ h r hr1
end
end Go.Am
