/- The abstract machine: calls, regions, code. -/
import Derived.OrdersIn
import Derived.LoopNIn
import Derived.RangeFuncNested
import Derived.RangeFuncLeaves
import Derived.Test.YtldceipbpilipaaGreatDoorMachB
set_option linter.all false
namespace Go.Am
def oneVal:List Value→Value
 |[v]=>v
 |vs=> .tuple vs.toArray
def RetRel (X:Nat→Nat→Prop) (ρ:Places) (h:List Obj) (w:World) (rv:Value) (rets:List V):Prop:=
 ∃us:List Value,us.length=rets.length∧(∀ (j:Nat) (R:V),rets[j]? =some R→ ∃u,us[j]? =some u∧V2 X ρ h w u R)∧rv=oneVal us
def ArgRel (X:Nat→Nat→Prop) (ρ:Places) (h:List Obj) (w:World) (vs:List Value) (args:List V):Prop:=
 vs.length=args.length∧ ∀ (j:Nat) (A:V),args[j]? =some A→ ∃v,vs[j]? =some v∧VRel X ρ h w v A
def RunOk (P:Program) (G:Nat→Option (List D)) (run:Run):Prop:=
 ∀ (f:FuncId) (args:List V) (h:List Obj) (rets:List V) (h':List Obj),run f args h=some (rets,h')→
  ∀ (X:Nat→Nat→Prop) (ρ:Places) (w:World) (vs:List Value),HRel X ρ h w→GRel X G ρ h w→ArgRel X ρ h w vs args→
   Calls P f vs.toArray w fun e w'=> ∃ρ' rv,e= .returned rv∧Stp X ρ h w ρ' h' w'∧RetRel X ρ' h' w' rv rets
def RunHas (P:Program) (run:Run):Prop:=
 ∀ (f : FuncId) (args : List V) (h : List Obj) (r : List V × List Obj), run f args h = some r → ∃ fn, P.funcs[f]? = some fn ∧ (fn.name == "runtime.NumGoroutine") = false ∧ fn.body.isNone = false
theorem callWith_has {P:Program} {rf:Bool} {run:Run} {f:FuncId} {args:List V} {h:List Obj} {r:V × List Obj} (hh:RunHas P run) (hx:callWith rf run f args h=some r):
 ∃ fn, P.funcs[f]? = some fn ∧ (fn.name == "runtime.NumGoroutine") = false ∧ fn.body.isNone = false := by
 unfold callWith at hx
 split at hx
 ·cases hx
 ·simp only at hx
  split at hx
  ·split at hx
   ·rename_i hr
    exact hh _ _ _ _ hr
   ·cases hx
  ·cases hx
section
variable {X:Nat→Nat→Prop} {ρ ρ':Places} {h h':List Obj} {w w':World} {P:Program} {G:Nat→Option (List D)}
theorem argV_sound {v:Value} {A A':V} {rf:Bool} (ha:argV rf h A=some (A',h')) (H:HRel X ρ h w) (hv:VRel X ρ h w v A):Stp X ρ h w ρ h' w∧VRel X ρ h' w v A':=by
 unfold argV at ha
 split at ha
 ·split at ha
  ·simp only[Option.some.injEq,Prod.mk.injEq]at ha;obtain⟨rfl,rfl⟩:=ha;exact⟨Stp.refl H,hv⟩
  ·simp only[Option.map_eq_some_iff,Prod.exists,Prod.mk.injEq]at ha
   obtain⟨x,h1,hp,rfl,rfl⟩:=ha
   obtain⟨st,hr⟩:=pureV_sound hp H hv
   exact⟨st,hr⟩
 ·split at ha
  ·simp only[Option.some.injEq,Prod.mk.injEq]at ha;obtain⟨rfl,rfl⟩:=ha;exact⟨Stp.refl H,hv⟩
  ·simp only[Option.map_eq_some_iff,Prod.exists,Prod.mk.injEq]at ha
   obtain⟨x,h1,hp,rfl,rfl⟩:=ha
   obtain⟨st,hr⟩:=pureV_sound hp H hv
   exact⟨st,hr⟩
 ·simp only[Option.some.injEq,Prod.mk.injEq]at ha;obtain⟨rfl,rfl⟩:=ha;exact⟨Stp.refl H,hv⟩
 ·simp only[Option.some.injEq,Prod.mk.injEq]at ha;obtain⟨rfl,rfl⟩:=ha;exact⟨Stp.refl H,hv⟩
 ·simp only[Option.some.injEq,Prod.mk.injEq]at ha;obtain⟨rfl,rfl⟩:=ha;exact⟨Stp.refl H,hv⟩
 ·simp only[Option.some.injEq,Prod.mk.injEq]at ha;obtain⟨rfl,rfl⟩:=ha;exact⟨Stp.refl H,hv⟩
 ·simp only[Option.map_eq_some_iff,Prod.exists,Prod.mk.injEq]at ha
  obtain⟨x,h1,hp,rfl,rfl⟩:=ha
  obtain⟨st,hr⟩:=pureV_sound hp H hv
  exact⟨st,hr⟩
theorem argVs_sound {rf:Bool}: ∀ (args:List V) (h:List Obj) (vs:List Value) (as:List V) (h':List Obj),argVs rf h args=some (as,h')→HRel X ρ h w→ArgRel X ρ h w vs args→
 Stp X ρ h w ρ h' w∧ArgRel X ρ h' w vs as
 |[],h,vs,as,h',ha,H,hv=>by
  simp only[argVs,Option.some.injEq,Prod.mk.injEq]at ha;obtain⟨rfl,rfl⟩:=ha
  exact⟨Stp.refl H,hv⟩
 |A::args,h,vs,as,h',ha,H,hv=>by
  simp only[argVs]at ha
  split at ha
  ·rename_i A' h1 h1e
   split at ha
   ·rename_i as' h2 h2e
    simp only[Option.some.injEq,Prod.mk.injEq]at ha;obtain⟨rfl,rfl⟩:=ha
    obtain⟨hl,hg⟩:=hv
    cases vs with
    |nil=>simp at hl
    |cons v vs=>
     obtain⟨v',hv1,hv2⟩:=hg 0 A (by simp)
     simp at hv1;subst hv1
     obtain⟨s1,r1⟩:=argV_sound h1e H hv2
     obtain⟨s2,l2,r2⟩:=argVs_sound args h1 vs as' h2 h2e s1.rel ⟨by simpa using hl,fun j B hj=>by
      obtain⟨u,hu1,hu2⟩:=hg (j+1) B (by simpa using hj)
      exact⟨u,by simpa using hu1,s1.vrel hu2⟩⟩
     refine⟨s1.trans H s2,by simp[l2],fun j B hj=> ?_⟩
     cases j with
     |zero=>simp at hj;subst hj;exact⟨v,by simp,s2.vrel r1⟩
     |succ j=>simpa using r2 j B (by simpa using hj)
   ·cases ha
  ·cases ha
theorem ArgRel.ren {X':Nat→Nat→Prop} {f:Nat→Option Nat} {ρ2:Places} {h2:List Obj} (R:RenOk X X' f ρ h ρ2 h2) {vs:List Value} {as as2:List V} (ha:ArgRel X ρ h w vs as) (hm:as.mapM (V.ren f)=some as2):
 ArgRel X' ρ2 h2 w vs as2:=by
 obtain⟨e1,e2⟩:=mapM_get hm
 refine⟨by rw[e1];exact ha.1,fun j B hj=> ?_⟩
 obtain⟨A,hA,hr⟩:=e2 j B hj
 obtain⟨v,h1,h2⟩:=ha.2 j A hA
 exact⟨v,h1,h2.ren R hr⟩
theorem ren_ren2 {f:Nat→Option Nat} {x y:V} (hx: ∀vs,x≠ .tup vs) (hr:V.ren f x=some y):V.ren2 f x=some y:=by
 cases x with
 |tup vs=>exact absurd rfl (hx vs)
 |_=>exact hr
theorem back_lt {ids:List Nat} {n j i:Nat} (hj:ids[j]? =some i):back ids n j=some i:=by simp[back,hj]
theorem back_ge {ids:List Nat} {n j:Nat} (hj:ids.length≤j):back ids n j=some (n+(j - ids.length)):=by simp[back,List.getElem?_eq_none hj]
theorem return_rel (H:HRel X ρ h w) {ids:List Nat} (hn:ids.Nodup) {h2:List Obj} (ht:takeObjs h (place ids) ids=some h2) {ρ3:Places} {h3 h3':List Obj}
 (S:Stp (others X ρ h ids) (subPlaces ρ ids) h2 w ρ3 h3 w') (hm:h3.mapM (Obj.ren (back ids h.length))=some h3'):
 Stp X ρ h w (setAll ρ ids ρ3++ρ3.drop ids.length) (setAll h ids h3'++h3'.drop ids.length) w'∧
 RenOk (others X ρ h ids) X (back ids h.length) ρ3 h3 (setAll ρ ids ρ3++ρ3.drop ids.length) (setAll h ids h3'++h3'.drop ids.length):=by
 obtain⟨R2,H2⟩:=sub_rel (Y:=others X ρ h ids) H hn ht (fun _ _ h=>h)
 obtain⟨t1,t2⟩:=takeObjs_spec ht
 obtain⟨m1,m2⟩:=mapM_get hm
 obtain⟨_,m3⟩:=mapM_get' hm
 have hle:ids.length≤h3.length:=by rw[← t1];exact S.evo.le H2
 have hlen3:ρ3.length=h3.length:=S.rel.len
 have hidlt: ∀i∈ids,i<h.length:=fun i hi=>by
  obtain⟨j,hj⟩:=List.getElem?_of_mem hi
  have hlt:j<h2.length:=by rw[t1];exact lt_of_getElem? hj
  obtain⟨i',o,hi',ho,_⟩:=t2 j h2[j] (by simp[hlt])
  rw[hj]at hi';cases hi'
  exact lt_of_getElem? ho
 obtain⟨a1,a2⟩:=setAll_get ids h3' h hn hidlt (by omega)
 obtain⟨b1,b2⟩:=setAll_get ids ρ3 ρ hn (fun i hi=>by rw[H.len];exact hidlt i hi) (by omega)
 generalize hh4:setAll h ids h3'++h3'.drop ids.length=h4
 generalize hρ4:setAll ρ ids ρ3++ρ3.drop ids.length=ρ4
 -- reading the two lists
 have getH: ∀i,h4[i]? =if i<h.length then (match place ids i with | some j=>h3'[j]? | none=>h[i]?) else h3'[ids.length+(i - h.length)]? :=fun i=>by
  rw[← hh4]
  split
  ·rename_i hi;rw[List.getElem?_append_left (by omega),a2];cases place ids i <;> rfl
  ·rename_i hi;rw[List.getElem?_append_right (by omega),a1,List.getElem?_drop]
 have getR: ∀i,ρ4[i]? =if i<h.length then (match place ids i with | some j=>ρ3[j]? | none=>ρ[i]?) else ρ3[ids.length+(i - h.length)]? :=fun i=>by
  rw[← hρ4]
  have:=H.len
  split
  ·rename_i hi;rw[List.getElem?_append_left (by omega),b2];cases place ids i <;> rfl
  ·rename_i hi;rw[List.getElem?_append_right (by omega),b1,List.getElem?_drop,this]
 -- a callee's number
 have fwd: ∀j i,back ids h.length j=some i→j<h3.length→h4[i]? =h3'[j]? ∧ρ4[i]? =ρ3[j]? :=fun j i hb hj=>by
  rcases Nat.lt_or_ge j ids.length with h1 | h1
  ·have hij:ids[j]? =some ids[j]:=by simp[h1]
   rw[back_lt hij,Option.some.injEq]at hb
   subst hb
   have hlt:=hidlt ids[j] (by simp)
   rw[getH,getR,if_pos hlt,if_pos hlt,place_of hn hij]
   exact⟨rfl,rfl⟩
  ·rw[back_ge h1,Option.some.injEq]at hb
   subst hb
   rw[getH,getR,if_neg (by omega),if_neg (by omega),show ids.length+(h.length+(j - ids.length) - h.length)=j by omega]
   exact⟨rfl,rfl⟩
 -- every object of the result is a callee's,or one of the others
 have cases4: ∀i o,h4[i]? =some o→(∃j,back ids h.length j=some i∧j<h3.length∧h3'[j]? =some o∧ρ4[i]? =ρ3[j]?)∨(i∉ids∧i<h.length∧h[i]? =some o∧ρ4[i]? =ρ[i]?):=fun i o ho=>by
  rw[getH]at ho
  split at ho
  ·rename_i hi
   cases hp:place ids i with
   |some j=>
    rw[hp]at ho
    have hij:=place_get hp
    have hj3:j<h3.length:=by have:=lt_of_getElem? ho;omega
    exact .inl ⟨j,back_lt hij,hj3,ho,by rw[getR,if_pos hi,hp]⟩
   |none=>
    rw[hp]at ho
    exact .inr ⟨place_none hp,hi,ho,by rw[getR,if_pos hi,hp]⟩
  ·rename_i hi
   have hlt:=lt_of_getElem? ho
   refine .inl ⟨ids.length+(i - h.length), ?_,by omega,ho,by rw[getR,if_neg hi]⟩
   rw[back_ge (by omega)]
   congr 1
   omega
 have len4:ρ4.length=h4.length:=by
  rw[← hh4,← hρ4,List.length_append,List.length_append,a1,b1,List.length_drop,List.length_drop,m1,hlen3,H.len]
 have placeR: ∀i r,ρ4[i]? =some r→(∃j,back ids h.length j=some i∧j<h3.length∧ρ3[j]? =some r)∨(i∉ids∧i<h.length∧ρ[i]? =some r):=fun i r hr=>by
  have hlt:i<h4.length:=by rw[← len4];exact lt_of_getElem? hr
  rcases cases4 i h4[i] (by simp[hlt]) with ⟨j,c1,c2,_,c4⟩ | ⟨c1,c2,_,c4⟩
  ·exact .inl ⟨j,c1,c2,by rw[← c4,hr]⟩
  ·exact .inr ⟨c1,c2,by rw[← c4,hr]⟩
 -- the other objects' blocks
 have otherBlock: ∀i b c,i∉ids→ρ[i]? =some (some (b,c))→(∀ (k c':Nat),(subPlaces ρ ids)[k]? ≠some (some (b,c'))):=fun i b c hi hr k c' hk=>by
  have hlt:k<h2.length:=by rw[t1];simpa[subPlaces]using lt_of_getElem? hk
  obtain⟨i',o,hi',ho,_⟩:=t2 k h2[k] (by simp[hlt])
  rw[sub_get H hi' ho]at hk
  have:=H.inj _ _ b _ _ hr hk
  subst this
  exact hi (List.mem_of_getElem? hi')
 have hmu: ∀b j,Mut X ρ4 h4 b j→Mut (others X ρ h ids) ρ3 h3 b j:=by
  rintro b j (hX | ⟨id,c,o,k1,k2,k3⟩)
  ·exact .inl (.inl hX)
  ·rcases cases4 id o k2 with ⟨j',_,c2,c3,c4⟩ | ⟨c1,_,c3,c4⟩
   ·obtain⟨o3,ho3,hr3⟩:=m2 j' o c3
    exact .inr ⟨j',c,o3,by rw[← c4,k1],ho3,(ren_mutAt hr3 j).1 k3⟩
   ·exact .inl (.inr ⟨id,c,o,c1,by rw[← c4,k1],c3,k3⟩)
 have R4:RenOk (others X ρ h ids) X (back ids h.length) ρ3 h3 ρ4 h4:=⟨fun j i hb o ho=>by
  have hlt:=lt_of_getElem? ho
  obtain⟨o',ho',hr'⟩:=m3 j o ho
  obtain⟨e1,e2⟩:=fwd j i hb hlt
  exact⟨o',by rw[e1,ho'],hr',e2⟩,hmu⟩
 have F4:Fr X ρ h w ρ4 h4 w':=by
  refine⟨S.fr.os,S.fr.tape,S.fr.output,S.fr.size,fun b hb hno=> ?_,fun b j v hnm hc=> ?_⟩
  ·obtain⟨e1,e2⟩:=S.fr.block b hb fun k c hk=>by
    have hlt:k<h2.length:=by rw[t1];simpa[subPlaces]using lt_of_getElem? hk
    obtain⟨i',o,hi',ho,_⟩:=t2 k h2[k] (by simp[hlt])
    rw[sub_get H hi' ho]at hk
    exact hno i' c hk
   refine⟨e1,fun id c hid=> ?_⟩
   rcases placeR id _ hid with ⟨j,_,_,c3⟩ | ⟨_,_,c3⟩
   ·exact e2 j c c3
   ·exact hno id c c3
  ·obtain⟨e1,e2⟩:=S.fr.imm b j v (fun hm'=>hnm (R2.mu b j hm')) hc
   exact⟨e1,fun hm'=>e2 (hmu b j hm')⟩
 have E4:Evo h.length ρ h ρ4 h4:=fun id o r hid ho hr=>by
  rw[getH,getR,if_pos hid,if_pos hid]
  cases hp:place ids id with
  |none=>exact⟨o,r,ho,hr,EvoObj.refl _ _⟩
  |some j=>
   have hij:=place_get hp
   have hj2:j<h2.length:=by rw[t1];exact lt_of_getElem? hij
   obtain⟨i',o',hi',ho',hren⟩:=t2 j h2[j] (by simp[hj2])
   rw[hij]at hi';cases hi'
   rw[ho]at ho';cases ho'
   have hrj:(subPlaces ρ ids)[j]? =some r:=by rw[sub_get H hij ho,hr]
   obtain⟨o3,r3,g1,g2,g3⟩:=S.evo j h2[j] r hj2 (by simp[hj2]) hrj
   obtain⟨o4,ho4,hr4⟩:=m3 j o3 g1
   exact⟨o4,r3,ho4,g2,ren_evo hren g3 hr4⟩
 refine⟨⟨⟨len4,fun id o ho=> ?_,fun b j hX=>Nat.lt_of_lt_of_le (H.xlt b j hX) S.fr.size,fun id b c j hid hX=> ?_,fun i j b c c' hi hj=> ?_⟩,F4,E4⟩,R4⟩
 ·rcases cases4 id o ho with ⟨j,_,c2,c3,c4⟩ | ⟨c1,c2,c3,c4⟩
  ·obtain⟨o3,ho3,hr3⟩:=m2 j o c3
   obtain⟨r,g1,g2⟩:=S.rel.obj j o3 ho3
   exact⟨r,by rw[c4,g1],g2.ren R4 hr3⟩
  ·obtain⟨r,g1,g2⟩:=H.obj id o c3
   refine⟨r,by rw[c4,g1],g2.kept F4 E4 fun b c hbc=> ?_⟩
   subst hbc
   exact (S.fr.block b (H.lt g1) (otherBlock id b c c1 g1)).1
 ·rcases placeR id _ hid with ⟨j',_,_,c3⟩ | ⟨_,_,c3⟩
  ·exact S.rel.xown j' b c j c3 (.inl hX)
  ·exact H.xown id b c j c3 hX
 ·have mixed: ∀i j b c c',i∉ids→ρ[i]? =some (some (b,c))→ρ3[j]? =some (some (b,c'))→False:=fun i j b c c' hi h1 h3'=>
   (S.fr.block b (H.lt h1) (otherBlock i b c hi h1)).2 j c' h3'
  rcases placeR i _ hi with ⟨i',c1,c2,c3⟩ | ⟨c1,c2,c3⟩ <;> rcases placeR j _ hj with ⟨j',d1,d2,d3⟩ | ⟨d1,d2,d3⟩
  ·have:=S.rel.inj _ _ b _ _ c3 d3
   subst this
   rw[c1]at d1
   simpa using d1
  ·exact (mixed j i' b c' c d1 d3 c3).elim
  ·exact (mixed i j' b c c' c1 c3 d3).elim
  ·exact H.inj _ _ b _ _ c3 d3
theorem callWith_sound {rf:Bool} {run:Run} {f:FuncId} {args:List V} {x:V} {vs:List Value} (hrun:RunOk P G run) (hx:callWith rf run f args h=some (x,h')) (H:HRel X ρ h w) (hg:GRel X G ρ h w) (ha:ArgRel X ρ h w vs args):
 Calls P f vs.toArray w fun e w'=> ∃ρ' rv,e= .returned rv∧Stp X ρ h w ρ' h' w'∧VRel X ρ' h' w' rv x:=by
 unfold callWith at hx
 split at hx
 ·cases hx
 ·rename_i as h1 hargs
  obtain⟨s1,a1⟩:=argVs_sound args h vs as h1 hargs H ha
  have H1:=s1.rel
  generalize hids:reach h1 (addIds [] (as.flatMap V.ids))=ids at hx
  have hn:ids.Nodup:=by rw[← hids];exact reach_nodup _ (addIds_nodup _ _ (by simp))
  simp only at hx
  split at hx
  ·rename_i as2 hin hm ht
   split at hx
   ·rename_i rets hout hr
    split at hx
    ·rename_i rets2 hout2 hmr hmo
     simp only[Option.some.injEq,Prod.mk.injEq]at hx
     obtain⟨rfl,rfl⟩:=hx
     obtain⟨R2,H2⟩:=sub_rel (Y:=others X ρ h1 ids) H1 hn ht (fun _ _ h=>h)
     have g2:GRel (others X ρ h1 ids) G (subPlaces ρ ids) hin w:=⟨fun g cs e=>RoVal.mono (fun b j _ hm hc=>⟨hc,fun h'=>hm (R2.mu b j h')⟩) ((hg.mono s1.fr).ro g cs e),fun g cs e h1 h2=>by
      obtain⟨k1,k2,k3⟩:=(hg.mono s1.fr).whole g cs e h1 h2
      exact⟨k1,subPlaces_no k2,k3⟩⟩
     refine (hrun f as2 hin rets hout hr (others X ρ h1 ids) _ w vs H2 g2 (a1.ren R2 hm)).mono ?_
     rintro e w' ⟨ρ3,rv,rfl,S,us,l1,l2,l3⟩
     obtain⟨S4,R4⟩:=return_rel H1 hn ht S hmo
     refine⟨_,rv,rfl,s1.trans H S4, ?_⟩
     obtain⟨e1,e2⟩:=mapM_get hmr
     have hu: ∀ (j:Nat) (R:V),rets2[j]? =some R→ ∃u,us[j]? =some u∧V2 X (setAll ρ ids ρ3++ρ3.drop ids.length) (setAll h1 ids hout2++hout2.drop ids.length) w' u R:=fun j R hj=>by
      obtain⟨A,hA,hAr⟩:=e2 j R hj
      obtain⟨u,hu1,hu2⟩:=l2 j A hA
      refine⟨u,hu1,V2.ren R4 hu2 (ren_ren2 (fun vs e=> ?_) hAr)⟩
      subst e
      exact hu2.elim
     have hl:us.length=rets2.length:=by omega
     subst l3
     match us,rets2,hl,hu with
     |[],[],_,_=>exact⟨_,rfl,by simp,fun j c hj=>by simp at hj⟩
     |[u],[R],_,hu=>
      obtain⟨u',h1,h2⟩:=hu 0 R (by simp)
      simp at h1;subst h1
      exact h2.vrel
     |u::u'::us,R::R'::rets2,hl,hu=>
      exact⟨_,rfl,by simpa using hl,fun j c hj=>by simpa using hu j c hj⟩
    ·cases hx
   ·cases hx
  ·cases hx
theorem guardKeep_some {h h':List Obj} {x:Option (V × List Obj)} {v:V} (hx:guardKeep h x=some (v,h')):x=some (v,h')∧boxesKept h h':=by
 unfold guardKeep at hx
 split at hx
 ·split at hx
  ·rename_i hk
   simp only[Option.some.injEq,Prod.mk.injEq]at hx
   obtain⟨rfl,rfl⟩:=hx
   exact⟨rfl,hk⟩
  ·cases hx
 ·cases hx
theorem callThaw_has {P:Program} {run:Run} {f:FuncId} {args:List V} {h:List Obj} {r:V × List Obj} (hh:RunHas P run) (hx:callThaw run f args h=some r):
 ∃ fn, P.funcs[f]? = some fn ∧ (fn.name == "runtime.NumGoroutine") = false ∧ fn.body.isNone = false := by
 unfold callThaw at hx
 split at hx
 ·cases hx
 ·split at hx
  ·rename_i hr
   exact hh _ _ _ _ hr
  ·cases hx
theorem argV_noids {v x:V} {h1:List Obj} (hp:argPure v=true) (e:argV false h v=some (x,h1)):x.ids=[]:=by
 have key: ∀ {y:Option (D × List Obj)},(y.map fun (p:D × List Obj)=>(V.d p.1,p.2))=some (x,h1)→x.ids=[]:=by
  intro y hy
  cases y with
  |none=>cases hy
  |some p=>simp only[Option.map_some,Option.some.injEq,Prod.mk.injEq]at hy;rw[← hy.1];rfl
 cases v with
 |ptr a b=>simp[argPure]at hp
 |mp a=>simp[argPure]at hp
 |clo f c=>simp[argPure]at hp
 |ro cs=>simp only[argV,Option.some.injEq,Prod.mk.injEq]at e;rw[← e.1];rfl
 |arr a b=>simp only[argV,Bool.false_eq_true,if_false]at e;exact key e
 |sl a b c d=>simp only[argV,Bool.false_eq_true,if_false]at e;exact key e
 |_=>simp only[argV]at e;exact key e
theorem argVs_noids: ∀ (args:List V) (h:List Obj) (as:List V) (h1:List Obj),args.all argPure=true→argVs false h args=some (as,h1)→as.flatMap V.ids=[]
 |[],h,as,h1,_,e=>by simp only[argVs,Option.some.injEq,Prod.mk.injEq]at e;rw[← e.1];rfl
 |v::vs,h,as,h1,hp,e=>by
  simp only[List.all_cons,Bool.and_eq_true]at hp
  simp only[argVs]at e
  split at e
  ·rename_i x h2 e1
   split at e
   ·rename_i xs h3 e2
    simp only[Option.some.injEq,Prod.mk.injEq]at e
    obtain⟨rfl,rfl⟩:=e
    rw[List.flatMap_cons,argV_noids hp.1 e1,argVs_noids vs h2 xs h3 hp.2 e2];rfl
   ·cases e
  ·cases e
theorem argV_ren {v x:V} {h1:List Obj} {g:Nat→Option Nat} (hp:argPure v=true) (e:argV false h v=some (x,h1)):V.ren g x=some x:=by
 have key: ∀ {y:Option (D × List Obj)},(y.map fun (p:D × List Obj)=>(V.d p.1,p.2))=some (x,h1)→V.ren g x=some x:=by
  intro y hy
  cases y with
  |none=>cases hy
  |some p=>simp only[Option.map_some,Option.some.injEq,Prod.mk.injEq]at hy;rw[← hy.1];rfl
 cases v with
 |ptr a b=>simp[argPure]at hp
 |mp a=>simp[argPure]at hp
 |clo f c=>simp[argPure]at hp
 |ro cs=>simp only[argV,Option.some.injEq,Prod.mk.injEq]at e;rw[← e.1];rfl
 |arr a b=>simp only[argV,Bool.false_eq_true,if_false]at e;exact key e
 |sl a b c d=>simp only[argV,Bool.false_eq_true,if_false]at e;exact key e
 |_=>simp only[argV]at e;exact key e
theorem argVs_ren {g:Nat→Option Nat}: ∀ (args:List V) (h:List Obj) (as:List V) (h1:List Obj),args.all argPure=true→argVs false h args=some (as,h1)→as.mapM (V.ren g)=some as
 |[],h,as,h1,_,e=>by simp only[argVs,Option.some.injEq,Prod.mk.injEq]at e;rw[← e.1];rfl
 |v::vs,h,as,h1,hp,e=>by
  simp only[List.all_cons,Bool.and_eq_true]at hp
  simp only[argVs]at e
  split at e
  ·rename_i x h2 e1
   split at e
   ·rename_i xs h3 e2
    simp only[Option.some.injEq,Prod.mk.injEq]at e
    obtain⟨rfl,rfl⟩:=e
    rw[List.mapM_cons,argV_ren hp.1 e1,argVs_ren vs h2 xs h3 hp.2 e2];rfl
   ·cases e
  ·cases e
theorem flatL_flat: ∀ {xs:List D},flatL xs=true→flat xs=xs∧ ∀x∈xs,x.flat=true
 |[],_=>⟨rfl,by simp⟩
 |x::xs,hf=>by
  simp only[flatL,Bool.and_eq_true]at hf
  obtain⟨e,a⟩:=flatL_flat hf.2
  refine⟨?_,fun y hy=> ?_⟩
  ·have hc:x.cells=[x]:=by
    cases x <;> first | rfl | simp[D.flat]at hf
   simp only[flat]at e ⊢
   rw[List.flatMap_cons,e,hc];rfl
  ·rcases List.mem_cons.1 hy with rfl | hy
   ·exact hf.1
   ·exact a y hy
theorem rep_flat {M M':Nat→Nat→Prop} {v:Value} {x:D} (hx:x.flat=true) (hr:Rep M w v x):Rep M' w v x:=by
 induction hr with
 |iface t v x _ ih=>exact .iface t v x (ih (by simpa[D.flat]using hx))
 |int k n=>exact .int k n
 |bool b=>exact .bool b
 |str s=>exact .str s
 |nilI=>exact .nilI
 |nilP=>exact .nilP
 |nilM=>exact .nilM
 |nilF=>exact .nilF
 |fn f=>simp[D.flat]at hx
 |err t v=>simp[D.flat]at hx
 |num n=>simp[D.flat]at hx
 |nil a c hc=>simp[D.flat]at hx
 |list=>simp[D.flat]at hx
 |agg=>simp[D.flat]at hx
theorem v1_flat {Y:Nat→Nat→Prop} {v:Value} {x:V} (hx:x.flat=true) (hr:V1 X ρ h w v x):V1 Y ρ h w v x:=by
 cases x with
 |d x=>exact rep_flat (M:=Mut X ρ h) (M':=Mut Y ρ h) hx hr
 |nilS=>exact hr
 |emp=>exact hr
 |arr a b=>exact hr
 |sl a b c d=>exact hr
 |ptr a b=>exact hr
 |_=>simp[V.flat]at hx
theorem obj_flat {Y:Nat→Nat→Prop} {r:Place} {o:Obj} (ho:o.flat=true) (hr:ObjRel X ρ h w r o):ObjRel Y ρ h w r o:=by
 cases o with
 |arr sz xs wm=>
  refine⟨hr.1, ?_⟩
  cases r with
  |none=>exact hr.2
  |some p=>
   obtain⟨b,c⟩:=p
   obtain⟨_,cur,e,fz,h1,h2,h3,h4,h5,h6,h7,h8⟩:=hr
   obtain⟨fe,fa⟩:=flatL_flat ho
   refine⟨cur,e,fz,h1,h2,h3,h4,h5,h6,h7,fun j x hj=> ?_⟩
   obtain⟨u,g1,g2,g3⟩:=h8 j x hj
   rw[fe]at hj
   exact⟨u,g1,rep_flat (fa x (List.mem_of_getElem? hj)) g2,g3⟩
 |box cs=>
  refine⟨hr.1,fun hne=> ?_⟩
  obtain⟨b,c,cur,e,fz,h1,h2,h3,h4,h5⟩:=hr.2 hne
  refine⟨b,c,cur,e,fz,h1,h2,h3,h4,fun j x hj=> ?_⟩
  obtain⟨u,g1,g2,g3⟩:=h5 j x hj
  exact⟨u,g1,v1_flat (List.all_eq_true.1 ho x (List.mem_of_getElem? hj)) g2,g3⟩
 |_=>simp[Obj.flat]at ho
theorem v_flat {Y:Nat→Nat→Prop} {v:Value} {x:V} (hx:x.flat=true) (hr:V2 X ρ h w v x):V2 Y ρ h w v x:=by
 cases x with
 |d x=>exact rep_flat (M:=Mut X ρ h) (M':=Mut Y ρ h) hx hr
 |nilS=>exact hr
 |emp=>exact hr
 |arr a b=>exact hr
 |sl a b c d=>exact hr
 |ptr a b=>exact hr
 |_=>simp[V.flat]at hx
theorem callThaw_sound {run:Run} {f:FuncId} {args:List V} {x:V} {vs:List Value} (hrun:RunOk P G run) (hx:callThaw run f args h=some (x,h')) (H:HRel X ρ h w) (hg:GRel X G ρ h w) (ha:ArgRel X ρ h w vs args):
 Calls P f vs.toArray w fun e w'=> ∃ρ' rv,e= .returned rv∧Stp X ρ h w ρ' h' w'∧VRel X ρ' h' w' rv x:=by
 unfold callThaw at hx
 split at hx
 ·cases hx
 ·rename_i as h1 hargs
  split at hx
  ·rename_i rets hout hr
   split at hx
   ·rename_i hfl
    simp only[Bool.and_eq_true]at hfl
    obtain⟨⟨hpure,hrf⟩,hof⟩:=hfl
    split at hx
    ·rename_i rets2 hout2 hmr hmo
     simp only[Option.some.injEq,Prod.mk.injEq]at hx
     obtain⟨rfl,rfl⟩:=hx
     have hno:=argVs_noids args h as h1 hpure hargs
     obtain⟨s1,a1⟩:=argVs_sound args h vs as h1 hargs H ha
     have H1:=s1.rel
     have hn:([]:List Nat).Nodup:=List.nodup_nil
     have ht1:takeObjs h1 (place []) []=some []:=rfl
     have ht:takeObjs h (place []) []=some []:=rfl
     obtain⟨R2,H2⟩:=sub_rel (Y:=others X ρ h1 []) H1 hn ht1 (fun _ _ h=>h)
     have g2:GRel (others X ρ h1 []) G (subPlaces ρ []) [] w:=⟨fun g cs e=>RoVal.mono (fun b j _ hm hc=>⟨hc,fun h'=>hm (R2.mu b j h')⟩) ((hg.mono s1.fr).ro g cs e),fun g cs e h1 h2=>by
      obtain⟨k1,k2,k3⟩:=(hg.mono s1.fr).whole g cs e h1 h2
      exact⟨k1,subPlaces_no k2,k3⟩⟩
     have hm:as.mapM (V.ren (place []))=some as:=argVs_ren args h as h1 hpure hargs
     refine (hrun f as [] rets hout hr (others X ρ h1 []) _ w vs H2 g2 (a1.ren R2 hm)).mono ?_
     rintro e w' ⟨ρ3,rv,rfl,S,us,l1,l2,l3⟩
     -- what was frozen is own again
     have hlt: ∀b j,others X ρ h [] b j→b<w.heap.size:=by
      rintro b j (hX | ⟨id,c,o,_,k1,k2,k3⟩)
      ·exact H.xlt b j hX
      ·exact H.lt k1
     have S':Stp (others X ρ h []) (subPlaces ρ []) [] w ρ3 hout w':=by
      refine⟨⟨S.rel.len,fun id o ho=> ?_,fun b j hX=>Nat.lt_of_lt_of_le (hlt b j hX) S.fr.size,fun id b c j hid hX=> ?_,S.rel.inj⟩,⟨S.fr.os,S.fr.tape,S.fr.output,S.fr.size,S.fr.block,fun b j v hnm hc=> ?_⟩,fun id o r hid=>by simp at hid⟩
      ·obtain⟨r,g1,g3⟩:=S.rel.obj id o ho
       exact⟨r,g1,obj_flat (List.all_eq_true.1 hof o (List.mem_of_getElem? ho)) g3⟩
      ·exact (S.fr.block b (hlt b j hX) (fun k c' hk=>by simp[subPlaces]at hk)).2 id c hid
      ·have hnX: ¬ others X ρ h [] b j:=fun hX=>hnm (.inl hX)
       have hnM: ¬ Mut X ρ h b j:=by
        rintro (hX | ⟨id,c,o,k1,k2,k3⟩)
        ·exact hnX (.inl hX)
        ·exact hnX (.inr ⟨id,c,o,by simp,k1,k2,k3⟩)
       have hnM1:=(s1.fr.imm b j v hnM hc).2
       obtain⟨e1,e2⟩:=S.fr.imm b j v (by
        rintro ((hX | ⟨id,c,o,_,k1,k2,k3⟩) | ⟨id,c,o,k1,k2,k3⟩)
        ·exact hnM1 (.inl hX)
        ·exact hnM1 (.inr ⟨id,c,o,k1,k2,k3⟩)
        ·simp at k2) hc
       refine⟨e1, ?_⟩
       rintro (hX | hX)
       ·exact hnX hX
       ·exact e2 (.inr hX)
     obtain⟨S4,R4⟩:=return_rel H hn ht S' hmo
     have e4:setAll ρ [] ρ3++ρ3.drop ([]:List Nat).length=ρ++ρ3:=by simp[setAll]
     have e5:setAll h [] hout2++hout2.drop ([]:List Nat).length=h++hout2:=by simp[setAll]
     rw[e4,e5]at S4 R4
     refine⟨_,rv,rfl,S4, ?_⟩
     obtain⟨e1,e2⟩:=mapM_get hmr
     have hu: ∀ (j:Nat) (R:V),rets2[j]? =some R→ ∃u,us[j]? =some u∧V2 X (ρ++ρ3) (h++hout2) w' u R:=fun j R hj=>by
      obtain⟨A,hA,hAr⟩:=e2 j R hj
      obtain⟨u,hu1,hu2⟩:=l2 j A hA
      refine⟨u,hu1,V2.ren R4 (v_flat (List.all_eq_true.1 hrf A (List.mem_of_getElem? hA)) hu2) (ren_ren2 (fun vs e=> ?_) hAr)⟩
      subst e
      exact hu2.elim
     have hl:us.length=rets2.length:=by omega
     subst l3
     match us,rets2,hl,hu with
     |[],[],_,_=>exact⟨_,rfl,by simp,fun j c hj=>by simp at hj⟩
     |[u],[R],_,hu=>
      obtain⟨u',h1,h2⟩:=hu 0 R (by simp)
      simp at h1;subst h1
      exact h2.vrel
     |u::u'::us,R::R'::rets2,hl,hu=>
      exact⟨_,rfl,by simpa using hl,fun j c hj=>by simpa using hu j c hj⟩
    ·cases hx
   ·cases hx
  ·cases hx
end
end Go.Am
namespace Go.Am
section
variable {X:Nat→Nat→Prop} {ρ ρ':Places} {h h':List Obj} {w w':World} {P:Program} {G:Nat→Option (List D)}
theorem run_callFunc {f : FuncId} {fn : Func} (hf : P.funcs[f]? = some fn) (hname : (fn.name == "runtime.NumGoroutine") = false) (hb : fn.body.isNone = false) (args : Array Value) :
 (callFunc f args).run P w= .ok (.enter f args) w:=by
 simp only[callFunc,Sem.run_bind,run_program,Result.andThen_ok,hf,hname,hb,Bool.false_eq_true,if_false,Sem.run_pure]
def Owed (X:Nat→Nat→Prop) (ρ:Places) (h:List Obj) (w:World) (a:Act) (dst:Option Tmp) (x:V) (h':List Obj) (K:Act→World→Prop):Prop:=
 ∀v ρ' w',Stp X ρ h w ρ' h' w'→VRel X ρ' h' w' v x→K (a.put dst v) w'
def Fw (r:Option Nat):Fence:= { Fence.wide with round:=r }
theorem semAt_eq {r:Option Nat} {o:Oper} (hnd: ∀c,o.op≠ .defer c) (f:Operand→Value):o.semAt (Fw r).round f=execOp f o:=by
 cases r with
 |none=>rfl
 |some l=>
  show Oper.semAt (some l) f o=_
  unfold Oper.semAt
  split
  ·rename_i l' c e1 e2
   exact absurd e2 (hnd c)
  ·rfl
theorem wp_value {r:Option Nat} {n:Nat} {o:Oper} {a:Act} {K:Act→World→Prop} {Q:Exit→Act→World→Prop} {x:V} {v:Value} (hnd: ∀c,o.op≠ .defer c) (hr:(execOp a.eval o).run P w= .ok (.value v) w') (hs:Stp X ρ h w ρ' h' w') (hv:VRel X ρ' h' w' v x)
 (hk:Owed X ρ h w a o.dst x h' K):o.wpIn (Fw r) n P a w K Q:=by
 refine⟨fun _ _=>trivial, ?_⟩
 rw[semAt_eq hnd,hr]
 exact hk v ρ' w' hs hv
theorem evs_rel {a:Act} {s:Slots} (hg:GRel X G ρ h w) (hs:SRel X ρ h w a.tmps s) (xs:List Operand):ArgRel X ρ h w (xs.map a.eval) (xs.map (ev G s)):=
 ⟨by simp,fun j A hj=>by
   simp only[List.getElem?_map,Option.map_eq_some_iff]at hj ⊢
   obtain⟨x,hx,rfl⟩:=hj
   exact⟨_,⟨x,hx,rfl⟩,ev_rel hg hs x⟩⟩
theorem parts_rel {a:Act} {s:Slots} (hg:GRel X G ρ h w) (hs:SRel X ρ h w a.tmps s) (ps:List (Nat × Operand)) (j:Nat) (p:Nat × V) (hj:(ps.map fun p=>(p.1,ev G s p.2))[j]? =some p):
 ∃u,(ps.map fun p=>(p.1,a.eval p.2))[j]? =some (p.1,u)∧VRel X ρ h w u p.2:=by
 simp only[List.getElem?_map,Option.map_eq_some_iff]at hj ⊢
 obtain⟨q,hq,rfl⟩:=hj
 exact⟨_,⟨q,hq,rfl⟩,ev_rel hg hs q.2⟩
theorem opt_rel {a:Act} {s:Slots} (hg:GRel X G ρ h w) (hs:SRel X ρ h w a.tmps s) (x:Option Operand):
 (∀A,x.map (ev G s)=some A→ ∃v,x.map a.eval=some v∧VRel X ρ h w v A)∧(x.map (ev G s)=none→x.map a.eval=none):=by
 cases x with
 |none=>exact⟨fun A e=>(by cases e),fun _=>rfl⟩
 |some y=>exact⟨fun A e=>(by simp only[Option.map_some,Option.some.injEq]at e;subst e;exact⟨_,rfl,ev_rel hg hs y⟩),fun e=>(by cases e)⟩
theorem builtinV_sound {b:Builtin} {ts:Array TypeId} {ty:TypeId} {cs:Array Bool} {args:List V} {vs:List Value} {x:V} (hx:builtinV P h b ts.toList args=some (x,h')) (H:HRel X ρ h w) (ha:ArgRel X ρ h w vs args):
 ∃v ρ' w',(builtin b ts ty cs vs.toArray).run P w= .ok (.value v) w'∧Stp X ρ h w ρ' h' w'∧VRel X ρ' h' w' v x:=by
 obtain⟨hl,hg⟩:=ha
 unfold builtinV at hx
 split at hx
 ·rename_i t tr A Ar hts
  simp only[Option.map_eq_some_iff,Prod.mk.injEq]at hx
  obtain⟨n,hn,rfl,rfl⟩:=hx
  obtain⟨v,hv1,hv2⟩:=hg 0 A (by simp)
  have ht0:ts[0]? =some t:=by
   have:ts.toList[0]? =some t:=by rw[hts];rfl
   simpa using this
  have hr:=lenV_sound (ty:=ty) (ts:=ts) (vs:=vs.toArray) hn H hv2 ht0 (by simpa using hv1)
  exact⟨_,ρ,w,by simp[builtin,hr],Stp.refl H,.int _ _⟩
 ·rename_i t tx tr A B Ar hts
  obtain⟨s,hs1,hs2⟩:=hg 0 A (by simp)
  obtain⟨v,hv1,hv2⟩:=hg 1 B (by simp)
  have sc:=coolV_sound H hv2
  obtain⟨u,ρ',w',hr,st,hu⟩:=appendV_sound (ty:=ty) hx sc.rel (sc.vrel hs2) (sc.vrel hv2)
  refine⟨u,ρ',w', ?_,sc.trans H st,hu⟩
  have h0:ts[0]? =some t:=by
   have:ts.toList[0]? =some t:=by rw[hts];rfl
   simpa using this
  have h1:ts[1]? =some tx:=by
   have:ts.toList[1]? =some tx:=by rw[hts];rfl
   simpa using this
  have hap:(Builtin.append_ ts ty vs.toArray)=Builtin.append_ #[t,tx] ty #[s,v]:=by
   have e0:vs.toArray[0]? =some s:=by simpa using hs1
   have e1:vs.toArray[1]? =some v:=by simpa using hv1
   simp[Builtin.append_,h0,h1,e0,e1]
  simp[builtin,hap,hr]
 ·rename_i td t2 tr A B Ar hts
  obtain⟨v,hv1,hv2⟩:=hg 0 A (by simp)
  obtain⟨u,hu1,hu2⟩:=hg 1 B (by simp)
  have h0:ts[0]? =some td:=by
   have:ts.toList[0]? =some td:=by rw[hts];rfl
   simpa using this
  obtain⟨z,w',hr,st,hz⟩:=copyV_sound (ts:=ts) (ty:=ty) (vs:=vs.toArray) hx H hv2 hu2 h0 (by simpa using hv1) (by simpa using hu1)
  exact⟨z,ρ,w',by simp[builtin,hr],st,hz⟩
 ·rename_i t tr A Ar hts
  obtain⟨v,hv1,hv2⟩:=hg 0 A (by simp)
  have h0:ts[0]? =some t:=by
   have:ts.toList[0]? =some t:=by rw[hts];rfl
   simpa using this
  obtain⟨z,w',hr,st,hz⟩:=clearV_sound (ts:=ts) (ty:=ty) (vs:=vs.toArray) hx H hv2 h0 (by simpa using hv1)
  exact⟨z,ρ,w',by simp[builtin,hr],st,hz⟩
 ·rename_i A r
  simp only[Option.map_eq_some_iff,Prod.mk.injEq]at hx
  obtain⟨z,hz,rfl,rfl⟩:=hx
  obtain⟨v,hv1,hv2⟩:=hg 0 A (by simp)
  cases vs with
  |nil=>simp at hv1
  |cons v' vs=>
   simp at hv1;subst hv1
   obtain⟨u,hu,hu2⟩:=foldV_sound (P:=P) (g:=Builtin.min2) (fun A B x v u h1 h2 h3=>min2_sound h1 h2 h3) r vs A z v' hz hv2 (by simpa using hl) fun j c hj=>by simpa using hg (j+1) c (by simpa using hj)
   exact⟨u,ρ,w,by simp[builtin,Builtin.min_,hu],Stp.refl H,hu2⟩
 ·rename_i A r
  simp only[Option.map_eq_some_iff,Prod.mk.injEq]at hx
  obtain⟨z,hz,rfl,rfl⟩:=hx
  obtain⟨v,hv1,hv2⟩:=hg 0 A (by simp)
  cases vs with
  |nil=>simp at hv1
  |cons v' vs=>
   simp at hv1;subst hv1
   obtain⟨u,hu,hu2⟩:=foldV_sound (P:=P) (g:=Builtin.max2) (fun A B x v u h1 h2 h3=>max2_sound h1 h2 h3) r vs A z v' hz hv2 (by simpa using hl) fun j c hj=>by simpa using hg (j+1) c (by simpa using hj)
   exact⟨u,ρ,w,by simp[builtin,Builtin.max_,hu],Stp.refl H,hu2⟩
 ·cases hx
theorem withH_some {x:Option V} {y:V} (hx:withH h x=some (y,h')):x=some y∧h'=h:=by
 simp only[withH,Option.map_eq_some_iff]at hx
 obtain⟨v,hv,e⟩:=hx
 cases e
 exact⟨hv,rfl⟩
theorem chillV_one {h:List Obj} {A:V} (hA: ∀vs,A≠ .tup vs):chillV h A=(pureV h A).map fun p=>(.d p.1,p.2):=by
 cases A with
 |tup vs=>exact absurd rfl (hA vs)
 |_=>rfl
theorem chillV_sound {v:Value} {A B:V} {h h':List Obj} (hc:chillV h A=some (B,h')) (H:HRel X ρ h w) (hv:VRel X ρ h w v A):Stp X ρ h w ρ h' w∧VRel X ρ h' w v B:=by
 have one: ∀ {A B:V},(pureV h A).map (fun p=>(V.d p.1,p.2))=some (B,h')→VRel X ρ h w v A→Stp X ρ h w ρ h' w∧VRel X ρ h' w v B:=fun e hv=>by
  obtain⟨⟨x,h1⟩,hx,e⟩:=Option.map_eq_some_iff.1 e
  simp only[Prod.mk.injEq]at e
  obtain⟨rfl,rfl⟩:=e
  exact pureV_sound hx H hv
 cases A with
 |tup vs=>
  obtain⟨⟨xs,h1⟩,hx,e⟩:=Option.map_eq_some_iff.1 hc
  simp only[Prod.mk.injEq]at e
  obtain⟨rfl,rfl⟩:=e
  obtain⟨us,rfl,u1,u2⟩:=hv
  obtain⟨s,e1,r⟩:=pureVs_sound (ρ:=ρ) (w:=w) vs h (fun j=>us.getD j undef) xs _ hx H fun j c hj=>by
   obtain⟨u,u3,u4⟩:=u2 j c hj
   rw[show us.getD j undef=u by simp[Array.getD_eq_getD_getElem?,u3]]
   cases c with
   |tup _=>exact u4.elim
   |_=>exact u4
  refine⟨s,us,rfl,by simp[e1,u1],fun j c hj=> ?_⟩
  rw[List.getElem?_map,Option.map_eq_some_iff]at hj
  obtain⟨x,hj,rfl⟩:=hj
  have hlt:j<us.size:=by have:=lt_of_getElem? hj;omega
  exact⟨us[j],by simp[hlt],by
   have:=r j x hj
   rw[show us.getD j undef=us[j] by simp[Array.getD_eq_getD_getElem?,hlt]]at this
   exact this⟩
 |_=>exact one ((chillV_one fun vs e=>by cases e).symm.trans hc) hv
theorem calls_wp {r:Option Nat} {n:Nat} {o:Oper} {a:Act} {K:Act→World→Prop} {Q:Exit→Act→World→Prop} {rf:Bool} {run:Run} {f:FuncId} {args:List V} {vs:List Value} {x:V} (hnd: ∀c,o.op≠ .defer c) (hrun:RunOk P G run) (hhas:RunHas P run)
 (hx:callWith rf run f args h=some (x,h')) (H:HRel X ρ h w) (hg:GRel X G ρ h w) (ha:ArgRel X ρ h w vs args) (hr:(execOp a.eval o).run P w=(callFunc f vs.toArray).run P w)
 (hk:Owed X ρ h w a o.dst x h' K):o.wpIn (Fw r) n P a w K Q:=by
 obtain⟨fn,h1,h2,h3⟩:=callWith_has hhas hx
 refine⟨fun _ _=>trivial, ?_⟩
 rw[semAt_eq hnd,hr,run_callFunc h1 h2 h3]
 refine⟨(fun e=>by cases e),CallsIn.mono (F:=Fw r) (callsIn_wide.2 (callWith_sound hrun hx H hg ha)) ?_⟩
 rintro e w' ⟨ρ',rv,rfl,st,hv⟩
 exact hk rv ρ' w' st hv
theorem thaw_wp {r:Option Nat} {n:Nat} {o:Oper} {a:Act} {K:Act→World→Prop} {Q:Exit→Act→World→Prop} {run:Run} {f:FuncId} {args:List V} {vs:List Value} {x:V} (hnd: ∀c,o.op≠ .defer c) (hrun:RunOk P G run) (hhas:RunHas P run)
 (hx:callThaw run f args h=some (x,h')) (H:HRel X ρ h w) (hg:GRel X G ρ h w) (ha:ArgRel X ρ h w vs args) (hr:(execOp a.eval o).run P w=(callFunc f vs.toArray).run P w)
 (hk:Owed X ρ h w a o.dst x h' K):o.wpIn (Fw r) n P a w K Q:=by
 obtain⟨fn,h1,h2,h3⟩:=callThaw_has hhas hx
 refine⟨fun _ _=>trivial, ?_⟩
 rw[semAt_eq hnd,hr,run_callFunc h1 h2 h3]
 refine⟨(fun e=>by cases e),CallsIn.mono (F:=Fw r) (callsIn_wide.2 (callThaw_sound hrun hx H hg ha)) ?_⟩
 rintro e w' ⟨ρ',rv,rfl,st,hv⟩
 exact hk rv ρ' w' st hv
theorem opV_sound {r:Option Nat} {n:Nat} {run:Run} {s:Slots} {o:Oper} {a:Act} {x:V} {K:Act→World→Prop} {Q:Exit→Act→World→Prop} (hrun:RunOk P G run) (hhas:RunHas P run) (hx:opV P G run s h o=some (x,h')) (H:HRel X ρ h w) (hg:GRel X G ρ h w)
 (hs:SRel X ρ h w a.tmps s) (hk:Owed X ρ h w a o.dst x h' K):o.wpIn (Fw r) n P a w K Q:=by
 have E:=fun y=>ev_rel hg hs y
 have hnd: ∀c,o.op≠ .defer c:=fun c e=>by simp[opV,e]at hx
 unfold opV at hx
 split at hx
 ·rename_i y ho
  simp only[Option.some.injEq,Prod.mk.injEq]at hx;obtain⟨rfl,rfl⟩:=hx
  exact wp_value hnd (by simp[execOp,ho]) (Stp.refl H) (E y) hk
 ·rename_i y ho
  simp only[Option.some.injEq,Prod.mk.injEq]at hx;obtain⟨rfl,rfl⟩:=hx
  exact wp_value hnd (by simp[execOp,ho]) (Stp.refl H) (E y) hk
 ·rename_i c y z ho
  obtain⟨hy,rfl⟩:=withH_some hx
  obtain⟨t,ht,hv⟩:=pickV_sound hy (E c) (E y) (E z)
  refine wp_value (v:=if t then a.eval y else a.eval z) hnd ?_ (Stp.refl H) hv hk
  cases t <;> simp[execOp,ho,ht,asBool]
 ·rename_i t ho
  obtain⟨v,ρ',w',hr,st,hv⟩:=allocV_sound hx H
  exact wp_value hnd (by simp[execOp,ho,hr]) st hv hk
 ·rename_i t y ho
  split at hx
  ·rename_i hst
   simp only[Option.some.injEq,Prod.mk.injEq]at hx;obtain⟨rfl,rfl⟩:=hx
   obtain⟨v,ρ',w',hr,st,hv⟩:=box_sound (P:=P) (t:=t) hst H (E y)
   exact wp_value hnd (by simp[execOp,ho,hr]) st hv hk
  ·cases hx
 ·rename_i t parts ho
  obtain⟨hy,rfl⟩:=withH_some hx
  obtain⟨v,hr,hv⟩:=buildV_sound (rp:=parts.toList.map fun p=>(p.1,a.eval p.2)) hy (by simp) (parts_rel hg hs parts.toList)
  refine wp_value hnd ?_ (Stp.refl H) hv hk
  have e:(parts.map fun (i,x)=>(i,a.eval x))=(parts.toList.map fun p=>(p.1,a.eval p.2)).toArray:=by
   apply Array.ext';simp
  simp only[execOp,ho,e,Sem.run_bind,hr,Result.andThen_ok,Sem.run_pure]
 ·rename_i t len parts ho
  obtain⟨v,ρ',w',hr,st,hv⟩:=buildSliceV_sound (rp:=parts.toList.map fun p=>(p.1,a.eval p.2)) hx H (by simp) (parts_rel hg hs parts.toList)
  refine wp_value hnd ?_ st hv hk
  have e:(parts.map fun (i,x)=>(i,a.eval x))=(parts.toList.map fun p=>(p.1,a.eval p.2)).toArray:=by
   apply Array.ext';simp
  simp only[execOp,ho,e,Sem.run_bind,hr,Result.andThen_ok,Sem.run_pure]
 ·rename_i t y ho
  obtain⟨hy,rfl⟩:=withH_some hx
  obtain⟨v,hr,hv⟩:=loadV_sound hy H (E y)
  exact wp_value hnd (by simp[execOp,ho,hr]) (Stp.refl H) hv hk
 ·rename_i t y z ho
  simp only[Option.map_eq_some_iff,Prod.mk.injEq]at hx
  obtain⟨h1,hx,rfl,rfl⟩:=hx
  obtain⟨w',hr,st⟩:=storeV_sound hx H (E y) (E z)
  refine⟨fun _ _=>trivial, ?_⟩
  have:(execOp a.eval o).run P w= .ok .skip w':=by simp[execOp,ho,hr]
  rw[semAt_eq hnd,this]
  exact hk undef ρ w' st ⟨#[],rfl,rfl,fun j c hj=>by simp at hj⟩
 ·rename_i y ho
  obtain⟨rfl,⟨ad,hp⟩,hv⟩:=nilCheckV_sound hx (E y)
  exact wp_value (v:=a.eval y) hnd (by simp[execOp,ho,hp]) (Stp.refl H) hv hk
 ·rename_i op t y z yT ho
  obtain⟨hy,rfl⟩:=withH_some hx
  simp only[Option.map_eq_some_iff]at hy
  obtain⟨d,hd,rfl⟩:=hy
  obtain⟨v,hr,hv⟩:=binE_sound (P:=P) (Xo:=y) (Yo:=z) hd (E y) (E z)
  refine wp_value (x:= .d d) (v:=v) hnd ?_ (Stp.refl H) hv hk
  simp only[execOp,ho]
  rw[Sem.run_bind,hr]
  rfl
 ·rename_i op t y ho
  obtain⟨hy,rfl⟩:=withH_some hx
  simp only[Option.map_eq_some_iff]at hy
  obtain⟨d,hd,rfl⟩:=hy
  obtain⟨v,hr,hv⟩:=unD_sound (P:=P) hd (E y)
  exact wp_value (x:= .d d) (v:=v) hnd (by simp[execOp,ho,hr]) (Stp.refl H) hv hk
 ·rename_i src dst y ho
  obtain⟨v,ρ',w',hr,st,hv⟩:=convV_sound hx H (E y)
  exact wp_value hnd (by simp[execOp,ho,hr]) st hv hk
 ·rename_i t y ho
  obtain⟨st,v,hr,hv⟩:=ifaceV_sound hx H (E y)
  exact wp_value hnd (by simp[execOp,ho,hr]) st hv hk
 ·rename_i f first captured ho
  split at hx
  ·rename_i hf
   simp only[Option.some.injEq,Prod.mk.injEq]at hx;obtain⟨rfl,rfl⟩:=hx
   simp only[Bool.and_eq_true,Array.isEmpty_iff]at hf
   obtain⟨rfl,hpl⟩:=hf
   have ha:=evs_rel hg hs captured.toList
   have hv:VRel X ρ h w (.func (.func f) #[] (captured.map a.eval)) (.clo f (captured.toList.map (ev G s))):=by
    refine⟨captured.map a.eval,rfl,by simp,fun j c hj=> ?_⟩
    obtain⟨u,h1,h2⟩:=ha.2 j c hj
    refine⟨u,by simpa using h1, ?_⟩
    have hc:=List.all_eq_true.1 hpl c (List.mem_of_getElem? hj)
    cases c <;> first
     |exact h2
     |simp[V.plain]at hc
   exact wp_value hnd (by simp[execOp,ho,Instr.makeFunc]) (Stp.refl H) hv hk
  ·cases hx
 ·rename_i t ho
  simp only[Option.some.injEq,Prod.mk.injEq]at hx;obtain⟨rfl,rfl⟩:=hx
  obtain⟨v,ρ',w',hr,st,hv⟩:=makeMap_sound (P:=P) (t:=t) H
  exact wp_value hnd (by simp[execOp,ho,hr]) st hv hk
 ·rename_i t y z ok ho
  obtain⟨hy,rfl⟩:=withH_some hx
  obtain⟨v,hr,hv⟩:=lookupV_sound hy H (E y) (E z)
  exact wp_value hnd (by simp[execOp,ho,hr]) (Stp.refl H) hv hk
 ·rename_i t m k y ho
  obtain⟨rfl,ρ',w',hr,st⟩:=updateV_sound hx H (E m) (E k) (E y)
  refine⟨fun _ _=>trivial, ?_⟩
  have:(execOp a.eval o).run P w= .ok .skip w':=by simp[execOp,ho,hr]
  rw[semAt_eq hnd,this]
  exact hk undef ρ' w' st ⟨#[],rfl,rfl,fun j c hj=>by simp at hj⟩
 ·rename_i t y z ho
  split at hx
  ·obtain⟨v,ρ',w',hr,st,hv⟩:=makeRowsV_sound hx H (E y) (E z)
   exact wp_value hnd (by simp[execOp,ho,hr]) st hv hk
  ·obtain⟨v,ρ',w',hr,st,hv⟩:=makeSliceV_sound hx H (E y) (E z)
   exact wp_value hnd (by simp[execOp,ho,hr]) st hv hk
 ·rename_i t y lo hi mx ho
  obtain⟨hy,rfl⟩:=withH_some hx
  obtain⟨v,hr,hv⟩:=sliceV_sound (vlo:=lo.map a.eval) (vhi:=hi.map a.eval) (vmx:=mx.map a.eval) hy H (E y) (opt_rel hg hs lo).1 (opt_rel hg hs lo).2 (opt_rel hg hs hi).1 (opt_rel hg hs hi).2 (opt_rel hg hs mx).2
  exact wp_value hnd (by simp[execOp,ho,hr]) (Stp.refl H) hv hk
 ·rename_i t y f ho
  obtain⟨hy,rfl⟩:=withH_some hx
  obtain⟨v,hr,hv⟩:=fieldAddrV_sound hy (E y)
  exact wp_value hnd (by simp[execOp,ho,hr]) (Stp.refl H) hv hk
 ·rename_i t y f ho
  obtain⟨hy,rfl⟩:=withH_some hx
  obtain⟨v,hr,hv⟩:=fieldV_sound hy (E y)
  exact wp_value hnd (by simp[execOp,ho,hr]) (Stp.refl H) hv hk
 ·rename_i t y z ho
  obtain⟨hy,rfl⟩:=withH_some hx
  obtain⟨v,hr,hv⟩:=indexAddrV_sound hy H (E y) (E z)
  exact wp_value hnd (by simp[execOp,ho,hr]) (Stp.refl H) hv hk
 ·rename_i t y z ho
  obtain⟨hy,rfl⟩:=withH_some hx
  obtain⟨v,hr,hv⟩:=indexV_sound hy (E y) (E z)
  exact wp_value hnd (by simp[execOp,ho,hr]) (Stp.refl H) hv hk
 ·rename_i y xT t ok ho
  obtain⟨hy,rfl⟩:=withH_some hx
  obtain⟨v,hr,hv⟩:=assertV_sound (xT:=xT) hy (E y)
  exact wp_value hnd (by simp[execOp,ho,hr]) (Stp.refl H) hv hk
 ·rename_i y i ho
  obtain⟨hy,rfl⟩:=withH_some hx
  obtain⟨v,hr,hv⟩:=extractV_sound (P:=P) hy (E y)
  exact wp_value hnd (by simp[execOp,ho,hr]) (Stp.refl H) hv hk
 ·rename_i t y ho
  obtain⟨v,ρ',w',hr,st,hv⟩:=rangeOpV_sound hx H (E y)
  exact wp_value hnd (by simp[execOp,ho,hr]) st hv hk
 ·rename_i y ho
  obtain⟨v,ρ',w',hr,st,hv⟩:=nextV_sound (P:=P) (ty:=o.type) hx H (E y)
  exact wp_value hnd (by simp[execOp,ho,hr]) st hv hk
 ·rename_i y ho
  obtain⟨v,ρ',w',hr,st,hv⟩:=nextM_sound (P:=P) (ty:=o.type) hx H (E y)
  exact wp_value hnd (by simp[execOp,ho,hr]) st hv hk
 ·rename_i c ho
  have hargs:c.args.map a.eval=(c.args.toList.map a.eval).toArray:=by apply Array.ext';simp
  split at hx
  ·rename_i hc
   split at hx
   ·rename_i t t2 m k hts has
    have ha:=evs_rel hg hs c.args.toList
    rw[has]at ha
    have hlen:c.args.toList.length=2:=by have:=ha.1;simpa using this
    obtain⟨u,e1,e2⟩:=ha.2 0 m rfl
    obtain⟨u2,f1,f2⟩:=ha.2 1 k rfl
    obtain⟨v,ρ',w',hr,st,hv⟩:=deleteV_sound (t2:=t2) (ty:=o.type) hx H e2 f2
    have hargs2:c.args.map a.eval= #[u,u2]:=by
     rw[hargs]
     apply Array.ext'
     apply List.ext_getElem?
     intro j
     match j with
     |0=>simpa using e1
     |1=>simpa using f1
     |j+2=>simp only[List.getElem?_toArray,List.getElem?_map];rw[List.getElem?_eq_none (by omega)];simp
    have hts2:c.argTypes= #[t,t2]:=by apply Array.ext';simpa using hts
    refine wp_value hnd ?_ st hv hk
    simp only[execOp,ho,resolve,hc,hargs2,hts2]
    rw[Sem.run_bind,Sem.run_pure,Result.andThen_ok]
    have hr': ∀cs,(builtin .delete #[t,t2] o.type cs #[u,u2]).run P w= .ok (.value v) w':=fun cs=>by simp[builtin,hr]
    exact hr' (c.args.map fun | .const _=>true | _=>false)
   ·cases hx
  ·rename_i b _ hc
   obtain⟨v,ρ',w',hr,st,hv⟩:=builtinV_sound (ty:=o.type) (cs:=c.args.map fun | .const _=>true | _=>false) hx H (evs_rel hg hs c.args.toList)
   refine wp_value hnd ?_ st hv hk
   simp only[execOp,ho,resolve,hc,hargs]
   rw[Sem.run_bind,Sem.run_pure,Result.andThen_ok]
   exact hr
  ·cases hx
  ·rename_i f hc
   unfold calleeV at hx
   split at hx
   ·rename_i g hf
    have hv:=E f
    rw[hf]at hv
    have hfv:a.eval f= .func (.func g) #[] #[]:=by
     generalize a.eval f=vf at hv
     cases hv;rfl
    have hex:(execOp a.eval o).run P w=(callFunc g (c.args.toList.map a.eval).toArray).run P w:=by
     simp only[execOp,ho,resolve,hc,hfv,Deferred.ofValue,Sem.run_bind,Sem.run_pure,Result.andThen_ok,invoke,hargs]
     simp
    split at hx
    ·split at hx
     ·exact calls_wp hnd hrun hhas (guardKeep_some hx).1 H hg (evs_rel hg hs c.args.toList) hex hk
     split at hx
     ·obtain⟨q,hq,e⟩:=Option.map_eq_some_iff.1 hx
      simp only[Prod.mk.injEq]at e
      obtain⟨rfl,rfl⟩:=e
      exact calls_wp hnd hrun hhas hq H hg (evs_rel hg hs c.args.toList) hex fun v ρ' w' st hv=>by
       have sc:=coolFrom_sound (q.2.length - h.length) h.length st.rel
       exact hk v ρ' w' (st.trans H sc) (sc.vrel hv)
     split at hx
     ·obtain⟨q,hq,e⟩:=Option.bind_eq_some_iff.1 hx
      exact calls_wp hnd hrun hhas hq H hg (evs_rel hg hs c.args.toList) hex fun v ρ' w' st hv=>by
       obtain⟨sc,hv'⟩:=chillV_sound e st.rel hv
       exact hk v ρ' w' (st.trans H sc) hv'
     ·exact thaw_wp hnd hrun hhas hx H hg (evs_rel hg hs c.args.toList) hex hk
    ·exact calls_wp hnd hrun hhas hx H hg (evs_rel hg hs c.args.toList) hex hk
   ·rename_i g caps hf
    have hv:=E f
    rw[hf]at hv
    obtain⟨us,hfv,u1,u2⟩:=hv
    have ha:=evs_rel hg hs c.args.toList
    refine calls_wp (vs:=c.args.toList.map a.eval++us.toList) hnd hrun hhas hx H hg ⟨by simp[u1],fun j A hj=> ?_⟩ ?_ hk
    ·rcases Nat.lt_or_ge j (c.args.toList.map (ev G s)).length with hlt | hge
     ·rw[List.getElem?_append_left hlt]at hj
      rw[List.getElem?_append_left (by simpa using hlt)]
      exact ha.2 j A hj
     ·rw[List.getElem?_append_right hge]at hj
      rw[List.getElem?_append_right (by simpa using hge)]
      obtain⟨u,hu,hu2⟩:=u2 _ A hj
      refine⟨u,by simpa using hu, ?_⟩
      have:V1 X ρ h w u A:=by
       cases A with
       |clo _ _=>exact hu2.elim
       |_=>exact hu2
      exact this.vrel
    ·simp only[execOp,ho,resolve,hc,hfv,Deferred.ofValue,Sem.run_bind,Sem.run_pure,Result.andThen_ok,invoke,hargs]
     congr 2
     apply Array.ext'
     simp
   ·cases hx
 ·cases hx
end
end Go.Am
namespace Go.Am
section
variable {X:Nat→Nat→Prop} {ρ ρ':Places} {h h':List Obj} {w w':World} {P:Program} {G:Nat→Option (List D)}
theorem sget_data (s:Slots) (t:Nat):sget (dataS s) t=match sget s t with | .d x=> .d x | _=> .dead:=by
 induction s with
 |nil=>rfl
 |cons p s ih=>
  obtain⟨i,v⟩:=p
  cases v <;> simp only[dataS,sget] <;> split <;> first
   |exact ih
   |rfl
theorem isle_rel (H:HRel X ρ h w):HRel (Mut X ρ h) [] [] w:=
 ⟨rfl,fun id o ho=>by simp at ho,fun b j hX=>by
   rcases hX with hX | ⟨id,c,o,k1,k2,k3⟩
   ·exact H.xlt b j hX
   ·exact H.lt k1,fun id b c j hi=>by simp at hi,fun i j b c c' hi=>by simp at hi⟩
theorem mut_isle {b j:Nat}:Mut (Mut X ρ h) [] [] b j↔Mut X ρ h b j:=
 ⟨fun hm=>by
   rcases hm with hm | ⟨id,c,o,k1,k2,k3⟩
   ·exact hm
   ·simp at k1,.inl⟩
theorem isle_slots {tmps:Array Value} {s:Slots} (hs:SRel X ρ h w tmps s):SRel (Mut X ρ h) [] [] w tmps (dataS s):=fun t=>by
 rw[sget_data]
 have:=hs t
 split
 ·rename_i x e
  rw[e]at this
  exact Rep.mono (fun b j v hm hc=>⟨hc,fun h'=>hm (mut_isle.1 h')⟩) this
 ·trivial
theorem isle_glob (hg:GRel X G ρ h w):GRel (Mut X ρ h) G [] [] w:=⟨fun g cs e=>(hg.ro g cs e).mono fun b j v hm hc=>⟨hc,fun h'=>hm (mut_isle.1 h')⟩,fun g cs e h1 h2=>by
 obtain⟨k1,k2,k3⟩:=hg.whole g cs e h1 h2
 exact⟨k1,fun id c e=>by simp at e,k3⟩⟩
theorem isle_stp (H:HRel X ρ h w) (S:Stp (Mut X ρ h) [] [] w ρ' h' w'):Stp X ρ h w ρ h w':=by
 have hb: ∀b,b<w.heap.size→w'.heap[b]? =w.heap[b]? :=fun b hb=>(S.fr.block b hb fun id c e=>by simp at e).1
 have f:Fr X ρ h w ρ h w':=⟨S.fr.os,S.fr.tape,S.fr.output,S.fr.size,fun b hlt hn=>⟨hb b hlt,hn⟩,fun b j v hm hc=>⟨(World.cell?_of_block (a:=⟨b,j,none⟩) (hb b (World.block_lt_of_cell? w ⟨b,j,none⟩ hc))).trans hc,hm⟩⟩
 refine⟨⟨H.len,fun id o ho=> ?_,fun b j hX=>Nat.lt_of_lt_of_le (H.xlt b j hX) S.fr.size,H.xown,H.inj⟩,f,Evo.refl _ _ _⟩
 obtain⟨r,hr,hrel⟩:=H.obj id o ho
 exact⟨r,hr,hrel.kept f (Evo.refl _ _ _) fun b c e=>hb b (H.lt (e ▸ hr))⟩
theorem isle_rep (S:Stp (Mut X ρ h) [] [] w ρ' h' w') {v:Value} {x:D} (hv:Rep (Mut (Mut X ρ h) ρ' h') w' v x):Rep (Mut X ρ h) w' v x:=
 Rep.mono (fun b j u hm hc=>⟨hc,fun h'=>hm (.inl h')⟩) hv
theorem chillV_data {A B:V} (hc:chillV h A=some (B,h')):(∃x,B= .d x)∨ ∃xs:List D,B= .tup (xs.map .d):=by
 cases A with
 |tup vs=>
  obtain⟨⟨xs,h1⟩,hx,e⟩:=Option.map_eq_some_iff.1 hc
  simp only[Prod.mk.injEq]at e
  exact .inr ⟨xs,e.1.symm⟩
 |_=>
  rw[chillV_one fun vs e=>by cases e]at hc
  obtain⟨⟨x,h1⟩,hx,e⟩:=Option.map_eq_some_iff.1 hc
  simp only[Prod.mk.injEq]at e
  exact .inl ⟨x,e.1.symm⟩
theorem isle_vrel (S:Stp (Mut X ρ h) [] [] w ρ' h' w') {v:Value} {B:V} (hB:(∃x,B= .d x)∨ ∃xs:List D,B= .tup (xs.map .d)) (hv:VRel (Mut X ρ h) ρ' h' w' v B):VRel X ρ h w' v B:=by
 rcases hB with ⟨x,rfl⟩ | ⟨xs,rfl⟩
 ·exact isle_rep S hv
 ·obtain⟨us,rfl,u1,u2⟩:=hv
  refine⟨us,rfl,u1,fun j c hj=> ?_⟩
  obtain⟨u,e1,e2⟩:=u2 j c hj
  rw[List.getElem?_map,Option.map_eq_some_iff]at hj
  obtain⟨x,_,rfl⟩:=hj
  exact⟨u,e1,isle_rep S e2⟩
theorem isle_wp {r:Option Nat} {n:Nat} {run:Run} {s:Slots} {o:Oper} {a:Act} {x:V} {K:Act→World→Prop} {Q:Exit→Act→World→Prop} (hrun:RunOk P G run) (hhas:RunHas P run) (hx:isleV P G run s o=some x) (H:HRel X ρ h w) (hg:GRel X G ρ h w)
 (hs:SRel X ρ h w a.tmps s) (hk:Owed X ρ h w a o.dst x h K):o.wpIn (Fw r) n P a w K Q:=by
 unfold isleV at hx
 cases hq:opV P G run (dataS s) [] o with
 |none=>rw[hq]at hx;cases hx
 |some q=>
  obtain⟨y,h1⟩:=q
  rw[hq]at hx
  simp only[obind,Option.map_eq_some_iff]at hx
  obtain⟨⟨B,h2⟩,hc,rfl⟩:=hx
  refine opV_sound hrun hhas hq (isle_rel H) (isle_glob hg) (isle_slots hs) fun v ρ1 w1 st hv=> ?_
  obtain⟨sc,hv'⟩:=chillV_sound hc st.rel hv
  have st':=st.trans (isle_rel H) sc
  exact hk v ρ w1 (isle_stp H st') (isle_vrel st' (chillV_data hc) hv')
end
end Go.Am
namespace Go.Am
structure Stb (k:Nat) (X:Nat→Nat→Prop) (ρ:Places) (h:List Obj) (w:World) (ρ':Places) (h':List Obj) (w':World):Prop where
 rel:HRel X ρ' h' w'
 fr:Fr X ρ h w ρ' h' w'
 evo:Evo k ρ h ρ' h'
section
variable {X:Nat→Nat→Prop} {ρ ρ' ρ'':Places} {h h' h'':List Obj} {w w' w'':World} {P:Program} {G:Nat→Option (List D)} {k i:Nat} {p:Place} {cs:List V}
theorem Stp.stb (a:Stp X ρ h w ρ' h' w') (hk:k≤h.length):Stb k X ρ h w ρ' h' w':=⟨a.rel,a.fr,a.evo.mono hk⟩
theorem Stb.trans (a:Stb k X ρ h w ρ' h' w') (b:Stb k X ρ' h' w' ρ'' h'' w''):Stb k X ρ h w ρ'' h'' w'':=⟨b.rel,a.fr.trans b.fr,a.evo.trans b.evo⟩
theorem Stb.stp (a:Stb h.length X ρ h w ρ' h' w'):Stp X ρ h w ρ' h' w':=⟨a.rel,a.fr,a.evo⟩
def Unb (ρ:Places) (h:List Obj) (i:Nat):Prop:=ρ[i]? =some none∧ ∃cs,h[i]? =some (.box cs)
theorem Unb.stp (u:Unb ρ h i) (a:Stp X ρ h w ρ' h' w'):Unb ρ' h' i:=by
 obtain⟨u1,cs,u2⟩:=u
 obtain⟨o',r',h1,h2,h3⟩:=a.evo i _ _ (lt_of_getElem? u2) u2 u1
 cases o' <;> simp only[EvoObj]at h3
 obtain⟨_,rfl⟩:=h3
 exact⟨h2,_,h1⟩
theorem place_ne {j b c:Nat} (hi:ρ[i]? =some none) (hj:ρ[j]? =some (some (b,c))):i≠j:=fun e=>by subst e;rw[hi]at hj;cases hj
theorem arr_ne {j sz wm:Nat} {xs:List D} (ho:h[i]? =some (.box cs)) (hj:h[j]? =some (.arr sz xs wm)):i≠j:=fun e=>by subst e;rw[ho]at hj;cases hj
theorem place_set {j:Nat} (hne:i≠j) {r:Place} (hj:ρ[j]? =some r):(ρ.set i p)[j]? =some r:=by rw[List.getElem?_set_ne hne];exact hj
theorem V0.birth (hi:ρ[i]? =some none) (ho:h[i]? =some (.box cs)) (hf:Imm X ρ h w (ρ.set i p) h w') {v:Value} {x:V} (hv:V0 X ρ h w v x):V0 X (ρ.set i p) h w' v x:=by
 cases x with
 |d x=>exact Rep.mono hf hv
 |nilS=>exact hv
 |arr id n=>
  obtain⟨hs,sz,xs,wm,r,h1,h2,h3,h4⟩:=hv
  exact⟨hs,sz,xs,wm,r,h1,place_set (arr_ne ho h1) h2,h3,h4⟩
 |sl id tot off len=>
  obtain⟨hs,sz,xs,wm,r,h1,h2,h3,h4⟩:=hv
  exact⟨hs,sz,xs,wm,r,h1,place_set (arr_ne ho h1) h2,h3,h4⟩
 |emp=>exact hv
 |ptr id off=>
  obtain⟨o,b,c,h1,h2,h3,h4⟩:=hv
  exact⟨o,b,c,h1,h2,place_set (place_ne hi h3) h3,h4⟩
 |eptr id n j off=>
  obtain⟨hs,sz,xs,wm,r,h1,h2,h3,h4⟩:=hv
  exact⟨hs,sz,xs,wm,r,h1,place_set (arr_ne ho h1) h2,h3,h4⟩
 |ro cs=>exact RoVal.mono hf hv
 |dead=>trivial
 |mp id=>
  rcases hv with ⟨cs,b,c,h1,h2,h3⟩ | ⟨es,bs,ck,b,c,h1,h2,h3⟩
  ·exact .inl ⟨cs,b,c,h1,place_set (place_ne hi h2) h2,h3⟩
  ·exact .inr ⟨es,bs,ck,b,c,h1,place_set (place_ne hi h2) h2,h3⟩
 |clo _ _=>exact hv
 |agg _=>exact hv
 |tup _=>exact hv
theorem V1.birth (hi:ρ[i]? =some none) (ho:h[i]? =some (.box cs)) (hf:Imm X ρ h w (ρ.set i p) h w') {v:Value} {x:V} (hv:V1 X ρ h w v x):V1 X (ρ.set i p) h w' v x:=by
 cases x with
 |clo f caps=>
  obtain⟨us,h1,h2,h3⟩:=hv
  exact⟨us,h1,h2,fun j c hj=>let ⟨u,h4,h5⟩:=h3 j c hj;⟨u,h4,h5.birth hi ho hf⟩⟩
 |d x=>exact V0.birth (x:= .d x) hi ho hf hv
 |nilS=>exact V0.birth (x:= .nilS) hi ho hf hv
 |arr a b=>exact V0.birth (x:= .arr a b) hi ho hf hv
 |sl a b c d=>exact V0.birth (x:= .sl a b c d) hi ho hf hv
 |emp=>exact V0.birth (x:= .emp) hi ho hf hv
 |ptr a b=>exact V0.birth (x:= .ptr a b) hi ho hf hv
 |eptr a b c d=>exact V0.birth (x:= .eptr a b c d) hi ho hf hv
 |ro a=>exact V0.birth (x:= .ro a) hi ho hf hv
 |mp a=>exact V0.birth (x:= .mp a) hi ho hf hv
 |agg a=>exact V0.birth (v:=v) (x:= .agg a) hi ho hf hv
 |tup a=>exact V0.birth (v:=v) (x:= .tup a) hi ho hf hv
 |dead=>trivial
theorem V2.birth (hi:ρ[i]? =some none) (ho:h[i]? =some (.box cs)) (hf:Imm X ρ h w (ρ.set i p) h w') {v:Value} {x:V} (hv:V2 X ρ h w v x):V2 X (ρ.set i p) h w' v x:=by
 cases x with
 |agg ds=>
  obtain⟨us,h1,h2,h3⟩:=hv
  exact⟨us,h1,h2,fun j c hj=>let ⟨u,h4,h5,h6⟩:=h3 j c hj;⟨u,h4,h5.birth hi ho hf,h6⟩⟩
 |clo f caps=>exact V1.birth (x:= .clo f caps) hi ho hf hv
 |d x=>exact V1.birth (x:= .d x) hi ho hf hv
 |nilS=>exact V1.birth (x:= .nilS) hi ho hf hv
 |arr a b=>exact V1.birth (x:= .arr a b) hi ho hf hv
 |sl a b c d=>exact V1.birth (x:= .sl a b c d) hi ho hf hv
 |emp=>exact V1.birth (x:= .emp) hi ho hf hv
 |ptr a b=>exact V1.birth (x:= .ptr a b) hi ho hf hv
 |eptr a b c d=>exact V1.birth (x:= .eptr a b c d) hi ho hf hv
 |ro a=>exact V1.birth (x:= .ro a) hi ho hf hv
 |mp a=>exact V1.birth (x:= .mp a) hi ho hf hv
 |tup a=>exact V1.birth (v:=v) (x:= .tup a) hi ho hf hv
 |dead=>trivial
theorem VRel.birth (hi:ρ[i]? =some none) (ho:h[i]? =some (.box cs)) (hf:Imm X ρ h w (ρ.set i p) h w') {v:Value} {x:V} (hv:VRel X ρ h w v x):VRel X (ρ.set i p) h w' v x:=by
 cases x with
 |tup ds=>
  obtain⟨us,h1,h2,h3⟩:=hv
  exact⟨us,h1,h2,fun j c hj=>let ⟨u,h4,h5⟩:=h3 j c hj;⟨u,h4,h5.birth hi ho hf⟩⟩
 |agg ds=>exact V2.birth (x:= .agg ds) hi ho hf hv
 |clo f caps=>exact V2.birth (x:= .clo f caps) hi ho hf hv
 |d x=>exact V2.birth (x:= .d x) hi ho hf hv
 |nilS=>exact V2.birth (x:= .nilS) hi ho hf hv
 |arr a b=>exact V2.birth (x:= .arr a b) hi ho hf hv
 |sl a b c d=>exact V2.birth (x:= .sl a b c d) hi ho hf hv
 |emp=>exact V2.birth (x:= .emp) hi ho hf hv
 |ptr a b=>exact V2.birth (x:= .ptr a b) hi ho hf hv
 |eptr a b c d=>exact V2.birth (x:= .eptr a b c d) hi ho hf hv
 |ro a=>exact V2.birth (x:= .ro a) hi ho hf hv
 |mp a=>exact V2.birth (x:= .mp a) hi ho hf hv
 |dead=>trivial
theorem ObjRel.birth (hi:ρ[i]? =some none) (ho:h[i]? =some (.box cs)) (hf:Imm X ρ h w (ρ.set i p) h w') {r:Place} {o:Obj} (hr:ObjRel X ρ h w r o)
 (hb: ∀b c,r=some (b,c)→w'.heap[b]? =w.heap[b]?):ObjRel X (ρ.set i p) h w' r o:=by
 have hu: ∀b c n,r=some (b,c)→Unfrozen w b n→Unfrozen w' b n:=fun b c n e hu cs t fz he=>hu cs t fz ((hb b c e).symm.trans he)
 cases o with
 |box ds=>
  refine⟨hr.1,fun hne=> ?_⟩
  obtain⟨b,c,cur,e,fz,h1,h2,h3,h4,h5⟩:=hr.2 hne
  exact⟨b,c,cur,e,fz,h1,(hb b c h1).trans h2,h3,hu b c _ h1 h4,fun j x hj=>let ⟨u,h6,h7,h8⟩:=h5 j x hj;⟨u,h6,h7.birth hi ho hf,h8⟩⟩
 |arr sz xs wm=>
  refine⟨hr.1, ?_⟩
  cases r with
  |none=>exact hr.2
  |some q=>
   obtain⟨b,c⟩:=q
   obtain⟨_,cur,e,fz,h1,h2,h3,h4,h5,h6,h7,h8⟩:=hr
   exact⟨cur,e,fz,(hb b c rfl).trans h1,h2,h3,h4,h5,h6,hu b c _ rfl h7,fun j x hj=>let ⟨u,h9,h10,h11⟩:=h8 j x hj;⟨u,h9,h10.mono hf,h11⟩⟩
 |siter s pos=>
  obtain⟨b,c,h1,h2⟩:=hr
  exact⟨b,c,h1,(hb b c h1).trans h2⟩
 |miter m=>
  obtain⟨b,c,bm,cm,since,ck,seen,es,bs,ck',h1,h2,h3,h4,h5⟩:=hr
  refine⟨b,c,bm,cm,since,ck,seen,es,bs,ck',h1,(hb b c h1).trans h2, ?_,h4,h5⟩
  rw[List.getElem?_set_ne]
  ·exact h3
  ·rintro rfl
   rw[hi]at h3
   cases h3
 |map es bs ck=>
  obtain⟨b,c,en,h1,h2,h3,hbs,h4⟩:=hr
  exact⟨b,c,en,h1,(hb b c h1).trans h2,h3,hbs,fun j k x hj=>let ⟨e,h5,h6,h7,h8⟩:=h4 j k x hj;⟨e,h5,h6.mono hf,h7.birth hi ho hf,h8⟩⟩
theorem birth_step (H:HRel X ρ h w) (hi:ρ[i]? =some none) (ho:h[i]? =some (.box cs)) {us:Array Value} (e:TypeId) (hc: ∀ (ρ:Places) (w:World),CellsRel X ρ h w us.toList cs) (hk:k≤i):
 Stb k X ρ h w (ρ.set i (some (w.heap.size,0))) h (w.alloc (.cells us e))∧Imm X ρ h w (ρ.set i (some (w.heap.size,0))) h (w.alloc (.cells us e))∧
 VRel X (ρ.set i (some (w.heap.size,0))) h (w.alloc (.cells us e)) (.pointer (some ⟨w.heap.size,0,none⟩)) (.ptr i 0):=by
 have hil:i<ρ.length:=lt_of_getElem? hi
 have hblk: ∀b,b<w.heap.size→(w.alloc (.cells us e)).heap[b]? =w.heap[b]? :=fun b hb=>by first | exact heap_alloc_old w _ b hb | exact heap_alloc_old w _ hb
 have hget: ∀ {j b c:Nat},(ρ.set i (some (w.heap.size,0)))[j]? =some (some (b,c))→(j=i∧b=w.heap.size∧c=0)∨(j≠i∧ρ[j]? =some (some (b,c))):=fun {j b c} hj=>by
  by_cases e:i=j
  ·subst e
   rw[List.getElem?_set_self hil]at hj
   cases hj
   exact .inl ⟨rfl,rfl,rfl⟩
  ·rw[List.getElem?_set_ne e]at hj
   exact .inr ⟨fun e2=>e e2.symm,hj⟩
 have hf:Fr X ρ h w (ρ.set i (some (w.heap.size,0))) h (w.alloc (.cells us e)):=by
  refine⟨rfl,rfl,rfl,by simp,fun b hb hn=>⟨hblk b hb,fun id c hid=> ?_⟩,fun b j v hm hcl=> ?_⟩
  ·rcases hget hid with ⟨_,e2,_⟩ | ⟨_,e2⟩
   ·omega
   ·exact hn id c e2
  ·have hb:b<w.heap.size:=World.block_lt_of_cell? w ⟨b,j,none⟩ hcl
   refine⟨(World.cell?_of_block (a:=⟨b,j,none⟩) (hblk b hb)).trans hcl, ?_⟩
   rintro (hX | ⟨id,c,o,k1,k2,k3⟩)
   ·exact hm (.inl hX)
   ·rcases hget k1 with ⟨_,e2,_⟩ | ⟨_,e2⟩
    ·omega
    ·exact hm (.inr ⟨id,c,o,e2,k2,k3⟩)
 refine⟨⟨⟨by rw[List.length_set];exact H.len,fun id o hoid=> ?_,fun b j hX=>Nat.lt_of_lt_of_le (H.xlt b j hX) (by simp),fun id b c j hid hX=> ?_,fun a b x c c' ha hb=> ?_⟩,hf,fun id o r hid hoid hrid=>⟨o,r,hoid,place_set (by omega) hrid,EvoObj.refl _ _⟩⟩,hf.imm,.box cs,w.heap.size,0,ho,rfl,List.getElem?_set_self hil,rfl⟩
 ·by_cases e2:i=id
  ·subst e2
   rw[ho]at hoid;cases hoid
   refine⟨_,List.getElem?_set_self hil,nofun,fun _=>⟨w.heap.size,0,us,e,(0,0),rfl,heap_alloc_new w _,by simpa using (hc ρ w).1,unfrozen_new us e,fun j x hj=> ?_⟩⟩
   obtain⟨u,k1,k2,k3⟩:=(hc (ρ.set i (some (w.heap.size,0))) (w.alloc (.cells us e))).2 j x hj
   exact⟨u,by simpa using k1,k2,k3⟩
  ·obtain⟨r,hr,hrel⟩:=H.obj id o hoid
   exact⟨r,place_set e2 hr,hrel.birth hi ho hf.imm fun b c e3=>hblk b (H.lt (e3 ▸ hr))⟩
 ·rcases hget hid with ⟨_,e2,_⟩ | ⟨_,e2⟩
  ·have:=H.xlt b j hX;omega
  ·exact H.xown id b c j e2 hX
 ·rcases hget ha with ⟨e1,e2,_⟩ | ⟨e1,e2⟩ <;> rcases hget hb with ⟨f1,f2,_⟩ | ⟨f1,f2⟩
  ·omega
  ·have:=H.lt f2;omega
  ·have:=H.lt e2;omega
  ·exact H.inj a b x c c' e2 f2
end
end Go.Am
namespace Go.Am
section
variable (P:Program) (G:Nat→Option (List D)) (run:Run)
noncomputable def execI (hint:List Nat) (hv:List Obj) (i:Nat) (s:Slots) (h:List Obj) (o:Oper):Option (V × List Obj):=
 if hint.contains i then withH h (hintV P G run hv s o) else if hint.isEmpty || hv.isEmpty || mild G hv s o || lateStore hint i o then opV P G run s h o else seenG hv (opV P G run s h o)
noncomputable def stepI (all:List Oper) (hint:List Nat) (hv:List Obj) (i:Nat) (s:Slots) (h:List Obj):Option (Slots × List Obj):=
 match all[i]? with
 |none=>some (s,h)
 |some o=>
  obind (wantedV all s o.guard) fun w=>
  if w then
   obind (execI P G run hint hv i s h o) fun p=>some (putV s o.dst p.1,p.2)
  else some (putV s o.dst (.tup []),h)
noncomputable def runL (all:List Oper) (hint:List Nat) (hv:List Obj):List Nat→Slots→List Obj→Option (Slots × List Obj)
 |[],s,h=>some (s,h)
 |i::l,s,h=>obind (stepI P G run all hint hv i s h) fun p=>runL all hint hv l p.1 p.2
theorem opsV_runL (all:List Oper) (hint:List Nat) (hv:List Obj): ∀ (rest:List Oper) (i:Nat) (s:Slots) (h:List Obj),(∀j,rest[j]? =all[i+j]?)→
 opsV P G run all hint hv i rest s h=runL P G run all hint hv (List.range' i rest.length) s h
 |[],i,s,h,_=>by simp[opsV,runL]
 |o::rest,i,s,h,hr=>by
  have h0:all[i]? =some o:=by have:=hr 0;simpa using this.symm
  have ih:=opsV_runL all hint hv rest (i+1)
  simp only[opsV,List.length_cons,List.range'_succ,runL,stepI,h0,execI]
  have hr': ∀j,rest[j]? =all[i+1+j]? :=fun j=>by
   have:=hr (j+1)
   rw[List.getElem?_cons_succ]at this
   rw[this]
   congr 1
   omega
  cases hw:wantedV all s o.guard with
  |none=>rfl
  |some b=>
   cases b with
   |false=>simp only[obind,Bool.false_eq_true,if_false];exact ih _ _ hr'
   |true=>
    simp only[obind,if_true]
    cases (if hint.contains i then withH h (hintV P G run hv s o) else if hint.isEmpty || hv.isEmpty || mild G hv s o || lateStore hint i o then opV P G run s h o else seenG hv (opV P G run s h o)) with
    |none=>rfl
    |some p=>simp only;exact ih _ _ hr'
end
section
variable {X:Nat→Nat→Prop} {ρ ρ':Places} {h h':List Obj} {w w':World} {P:Program} {G:Nat→Option (List D)}
structure Seen (hv h:List Obj):Prop where
 box: ∀ (id:Nat) (cs:List V),hv[id]? =some (.box cs)→h[id]? =some (.box cs)
 noarr: ∀ (id sz:Nat) (xs:List D) (wm:Nat),hv[id]? ≠some (.arr sz xs wm)
theorem view_get: ∀ (h:List Obj) (id:Nat) (o:Obj),(view h)[id]? =some o→(∃cs,o= .box cs∧h[id]? =some (.box cs))∨o= .siter ⟨#[]⟩ 0
 |[],id,o,h=>by simp[view]at h
 |.box cs::h,0,o,e=>by simp only[view,List.getElem?_cons_zero,Option.some.injEq]at e;exact .inl ⟨cs,e.symm,rfl⟩
 |.arr _ _ _::h,0,o,e=>by simp only[view,List.getElem?_cons_zero,Option.some.injEq]at e;exact .inr e.symm
 |.siter _ _::h,0,o,e=>by simp only[view,List.getElem?_cons_zero,Option.some.injEq]at e;exact .inr e.symm
 |.miter _::h,0,o,e=>by simp only[view,List.getElem?_cons_zero,Option.some.injEq]at e;exact .inr e.symm
 |.map _ _ _::h,0,o,e=>by simp only[view,List.getElem?_cons_zero,Option.some.injEq]at e;exact .inr e.symm
 |.box cs::h,id+1,o,e=>by simpa using view_get h id o (by simpa[view]using e)
 |.arr _ _ _::h,id+1,o,e=>by simpa using view_get h id o (by simpa[view]using e)
 |.siter _ _::h,id+1,o,e=>by simpa using view_get h id o (by simpa[view]using e)
 |.miter _::h,id+1,o,e=>by simpa using view_get h id o (by simpa[view]using e)
 |.map _ _ _::h,id+1,o,e=>by simpa using view_get h id o (by simpa[view]using e)
theorem seen_nil (h:List Obj):Seen [] h:=⟨fun id cs e=>by simp at e,fun id sz xs wm e=>by simp at e⟩
theorem seen_view (h:List Obj):Seen (view h) h where
 box:=fun id cs e=>by
  rcases view_get h id _ e with ⟨cs',h1,h2⟩ | h1
  ·cases h1;exact h2
  ·cases h1
 noarr:=fun id sz xs wm e=>by
  rcases view_get h id _ e with ⟨cs',h1,_⟩ | h1
  ·cases h1
  ·cases h1
theorem Seen.setSiter {hv h:List Obj} (S:Seen hv h) (i:Nat):Seen (hv.set i (.siter ⟨#[]⟩ 0)) h:=by
 refine⟨fun id cs e=> ?_,fun id sz xs wm e=> ?_⟩
 ·rw[List.getElem?_set]at e
  split at e
  ·split at e <;> cases e
  ·exact S.box id cs e
 ·rw[List.getElem?_set]at e
  split at e
  ·split at e <;> cases e
  ·exact S.noarr id sz xs wm e
theorem seen_maskIds: ∀ (l:List Nat) {hv h:List Obj},Seen hv h→Seen (maskIds l hv) h
 |[],_,_,S=>S
 |i::r,_,_,S=>(seen_maskIds r S).setSiter i
theorem seen_maskD (s:Slots) (h0:List Obj): ∀ (m:List Nat) {l h:List Obj},Seen l h→Seen (maskD s h0 m l) h
 |[],_,_,S=>S
 |m::r,l,h,S=>by
  unfold maskD
  split
  ·exact seen_maskIds _ (seen_maskD s h0 r S)
  ·exact seen_maskD s h0 r S
theorem seenG_some {hv:List Obj} {x:Option (V × List Obj)} {v:V} {h':List Obj} (hx:seenG hv x=some (v,h')):x=some (v,h')∧boxesKept hv h':=by
 unfold seenG at hx
 split at hx
 ·split at hx
  ·rename_i hk
   simp only[Option.some.injEq,Prod.mk.injEq]at hx
   obtain⟨rfl,rfl⟩:=hx
   exact⟨rfl,hk⟩
  ·cases hx
 ·cases hx
theorem seen_mask (s:Slots): ∀ (m:List Nat) {l h:List Obj},Seen l h→Seen (maskV s m l) h
 |[],_,_,S=>S
 |m::r,l,h,S=>by
  have S2:=seen_mask s r S
  unfold maskV
  split
  ·split
   ·refine⟨fun id cs e=> ?_,fun id sz xs wm e=> ?_⟩
    ·rw[List.getElem?_set]at e
     split at e
     ·split at e <;> cases e
     ·exact S2.box id cs e
    ·rw[List.getElem?_set]at e
     split at e
     ·split at e <;> cases e
     ·exact S2.noarr id sz xs wm e
   ·exact S2
  ·exact S2
variable {hv:List Obj}
theorem loadV_blind (S:Seen hv h) {t:TypeId} {A x:V} (hx:loadV P hv t A=some x):loadV P h t A=some x:=by
 cases A with
 |ptr id off=>
  simp only[loadV]at hx ⊢
  cases e:hv[id]? with
  |none=>rw[e]at hx;cases hx
  |some o=>
   rw[e]at hx
   cases o with
   |box cs=>rw[S.box id cs e];exact hx
   |arr _ _ _=>cases hx
   |siter _ _=>cases hx
   |miter _=>cases hx
   |map _=>cases hx
 |eptr id n i off=>
  simp only[loadV]at hx
  cases e:hv[id]? with
  |none=>rw[e]at hx;cases hx
  |some o=>
   rw[e]at hx
   cases o with
   |arr _ _ _=>exact absurd e (S.noarr _ _ _ _)
   |_=>cases hx
 |_=>exact hx
theorem indexAddrV_blind (S:Seen hv h) {t:TypeId} {A I x:V} (hx:indexAddrV P hv t A I=some x):indexAddrV P h t A I=some x:=by
 unfold indexAddrV at hx ⊢
 split at hx
 ·split at hx
  ·rename_i hn
   rw[if_pos hn]
   split at hx
   ·exact hx
   ·split at hx
    ·rename_i e1 e2;first | exact absurd e1 (S.noarr _ _ _ _) | exact absurd e2 (S.noarr _ _ _ _)
    ·cases hx
   ·split at hx
    ·rename_i e1 e2;first | exact absurd e1 (S.noarr _ _ _ _) | exact absurd e2 (S.noarr _ _ _ _)
    ·cases hx
   ·split at hx
    ·rename_i e1 e2
     simp only[S.box _ _ e1,e2]
     exact hx
    ·cases hx
   ·cases hx
  ·cases hx
 ·exact hx
 ·cases hx
theorem cold_blind (S:Seen hv h) {c:V} {x:D} (hx:cold hv c=some x):cold h c=some x:=by
 unfold cold at hx ⊢
 split at hx
 ·exact hx
 ·split at hx
  ·rename_i e;exact absurd e (S.noarr _ _ _ _)
  ·cases hx
 ·cases hx
theorem mapM_blind {α β:Type} {f g:α→Option β} (hfg: ∀a b,f a=some b→g a=some b): ∀ {l:List α} {r:List β},l.mapM f=some r→l.mapM g=some r
 |[],r,hr=>hr
 |x::l,r,hr=>by
  simp only[List.mapM_cons,Option.bind_eq_bind,Option.bind_eq_some_iff,Option.pure_def,Option.some.injEq]at hr ⊢
  obtain⟨y,hy,ys,hys,e⟩:=hr
  exact⟨y,hfg _ _ hy,ys,mapM_blind hfg hys,e⟩
theorem elems_blind (S:Seen hv h) {A:V} {xs:List D} (hx:elems? hv A=some xs):elems? h A=some xs:=by
 unfold elems? at hx ⊢
 split at hx
 ·exact hx
 ·exact hx
 ·exact hx
 ·split at hx
  ·rename_i e;exact absurd e (S.noarr _ _ _ _)
  ·cases hx
 ·split at hx
  ·rename_i e;exact absurd e (S.noarr _ _ _ _)
  ·cases hx
 ·split at hx
  ·rename_i e
   simp only[S.box _ _ e]
   exact mapM_blind (fun _ _=>cold_blind S) hx
  ·cases hx
 ·cases hx
theorem readConvV_blind (S:Seen hv h) {src dst:TypeId} {A x:V} (hx:readConvV P hv src dst A=some x):readConvV P h src dst A=some x:=by
 unfold readConvV at hx ⊢
 split at hx
 ·exact hx
 ·exact hx
 ·split at hx
  ·rename_i he hxs
   rw[he,elems_blind S hxs]
   exact hx
  ·rename_i he hxs
   rw[he,elems_blind S hxs]
   exact hx
  ·cases hx
 ·cases hx
theorem convV_read {src dst:TypeId} {A x:V} (hx:readConvV P h src dst A=some x):convV P h src dst A=some (x,h):=by
 unfold convV
 split
 ·rename_i e s hs hd
  simp[readConvV,hs,hd]at hx
 ·rename_i hs hd
  simp[readConvV,hs,hd]at hx
 ·rw[hx];rfl
theorem sliceV_blind (S:Seen hv h) {t:TypeId} {A x:V} {lo hi mx:Option V} (hx:sliceV P hv t A lo hi mx=some x):sliceV P h t A lo hi mx=some x:=by
 unfold sliceV at hx ⊢
 split at hx
 ·exact hx
 ·exact hx
 ·exact hx
 ·split at hx
  ·rename_i e1 e2;first | exact absurd e1 (S.noarr _ _ _ _) | exact absurd e2 (S.noarr _ _ _ _)
  ·cases hx
 ·split at hx
  ·rename_i e1 e2;first | exact absurd e1 (S.noarr _ _ _ _) | exact absurd e2 (S.noarr _ _ _ _)
  ·cases hx
 ·exact hx
 ·cases hx
theorem lenV_blind (S:Seen hv h) {t:TypeId} {A:V} {n:Nat} (hx:lenV P hv t A=some n):lenV P h t A=some n:=by
 unfold lenV at hx ⊢
 split at hx
 ·exact hx
 ·exact hx
 ·exact hx
 ·split at hx
  ·rename_i e;exact absurd e (S.noarr _ _ _ _)
  ·cases hx
 ·exact hx
 ·split at hx
  ·rename_i e;exact absurd e (S.noarr _ _ _ _)
  ·cases hx
 ·split at hx
  ·rename_i e
   simp only[S.box _ _ e]
   exact hx
  ·cases hx
 ·exact hx
 ·cases hx
theorem argVs_data {rf:Bool}: ∀ {args:List V},allD args=true→argVs rf h args=some (args,h)∧args.flatMap V.ids=[]∧ ∀f:Nat→Option Nat,args.mapM (V.ren f)=some args
 |[],_=>⟨rfl,rfl,fun _=>rfl⟩
 |.d x::r,ha=>by
  obtain⟨h1,h2,h3⟩:=argVs_data (rf:=rf) (args:=r) ha
  have e:argV rf h (.d x)=some (.d x,h):=by simp[argV,pureV,pure1]
  refine⟨by simp only[argVs,e,h1],by rw[List.flatMap_cons,h2];rfl,fun f=> ?_⟩
  have e2:V.ren f (.d x)=some (.d x):=rfl
  simp only[List.mapM_cons,e2,h3 f]
  rfl
 |.nilS::_,ha | .arr _ _::_,ha | .sl _ _ _ _::_,ha | .emp::_,ha | .ptr _ _::_,ha | .eptr _ _ _ _::_,ha | .ro _::_,ha | .mp _::_,ha | .clo _ _::_,ha | .agg _::_,ha | .tup _::_,ha | .dead::_,ha=>by cases ha
theorem callData_op {run:Run} {rf:Bool} {f:FuncId} {args:List V} {x:V} (hx:callData run f args=some x):callWith rf run f args h=some (x,h):=by
 unfold callData at hx
 split at hx
 ·rename_i ha
  obtain⟨h1,h2,h3⟩:=argVs_data (h:=h) (rf:=rf) ha
  cases hr:run f args [] with
  |none=>rw[hr]at hx;cases hx
  |some q=>
   obtain⟨rets,hout⟩:=q
   rw[hr]at hx
   simp only[obind]at hx
   split at hx
   ·rename_i hq
    simp only[Bool.and_eq_true,List.isEmpty_iff]at hq
    obtain⟨rfl,hd⟩:=hq
    simp only[Option.some.injEq]at hx
    subst hx
    obtain⟨-,-,h6⟩:=argVs_data (h:=h) (rf:=rf) hd
    have hids:reach h (addIds [] (args.flatMap V.ids))=[]:=by
     rw[h2]
     simp[addIds,reach,close]
    unfold callWith
    rw[h1]
    simp only[hids]
    simp only[h3]
    have ht:takeObjs h (place []) []=some []:=rfl
    rw[ht]
    simp only[hr,h6]
    simp[setAll]
   ·cases hx
 ·cases hx
theorem blindV_op (S:Seen hv h) {run:Run} {s:Slots} {o:Oper} {x:V} (hx:blindV P G run hv s o=some x):opV P G run s h o=some (x,h):=by
 unfold blindV at hx
 unfold opV
 split at hx
 ·rename_i t a ho;simp only[ho,withH,loadV_blind S hx,Option.map_some]
 ·rename_i t a lo hi mx ho;simp only[ho,withH,sliceV_blind S hx,Option.map_some]
 ·rename_i t a i ho;simp only[ho,withH,indexAddrV_blind S hx,Option.map_some]
 ·rename_i src dst a ho;simp only[ho,convV_read (readConvV_blind S hx)]
 ·rename_i c ho
  split at hx
  ·rename_i t tr A Ar hc ht ha
   simp only[Option.map_eq_some_iff]at hx
   obtain⟨n,hn,rfl⟩:=hx
   simp only[ho,hc,ht,ha,builtinV,lenV_blind S hn,Option.map_some]
  ·rename_i f _ hc
   split at hx
   ·rename_i g hg
    split at hx
    ·cases hx
    ·rename_i hth
     simp only[ho,hc,calleeV,hg,hth]
     exact callData_op hx
   ·cases hx
  ·cases hx
 ·cases hx
theorem Seen.append (S:Seen hv h) (l:List Obj):Seen hv (h++l):=⟨fun id cs e=>by
 have:=S.box id cs e
 rw[List.getElem?_append_left (lt_of_getElem? this)];exact this,S.noarr⟩
theorem Seen.setArr (S:Seen hv h) {i sz:Nat} {xs:List D} {wm:Nat} (ho:h[i]? =some (.arr sz xs wm)) (o:Obj):Seen hv (h.set i o):=⟨fun id cs e=>by
 have:=S.box id cs e
 by_cases hi:i=id
 ·subst hi;rw[ho]at this;cases this
 ·rw[List.getElem?_set_ne hi];exact this,S.noarr⟩
theorem Seen.setIter (S:Seen hv h) {i:Nat} {t:ByteArray} {p:Nat} (ho:h[i]? =some (.siter t p)) (o:Obj):Seen hv (h.set i o):=⟨fun id cs e=>by
 have:=S.box id cs e
 by_cases hi:i=id
 ·subst hi;rw[ho]at this;cases this
 ·rw[List.getElem?_set_ne hi];exact this,S.noarr⟩
theorem Seen.setMap (S:Seen hv h) {i:Nat} {es:List (D × V)} {bs:List Nat} {ck:Nat} (ho:h[i]? =some (.map es bs ck)) (o:Obj):Seen hv (h.set i o):=⟨fun id cs e=>by
 have:=S.box id cs e
 by_cases hi:i=id
 ·subst hi;rw[ho]at this;cases this
 ·rw[List.getElem?_set_ne hi];exact this,S.noarr⟩
theorem boxesKept_get: ∀ {h h':List Obj},boxesKept h h'→ ∀ (id:Nat) (cs:List V),h[id]? =some (.box cs)→h'[id]? =some (.box cs)
 |[],_,_,id,cs,e=>by simp at e
 |.box cs0::h,.box cs'::h',k,0,cs,e=>by
  simp only[boxesKept]at k
  simp only[List.getElem?_cons_zero,Option.some.injEq,Obj.box.injEq]at e ⊢
  rw[← k.1,e]
 |.box cs0::h,.box cs'::h',k,id+1,cs,e=>by
  simp only[boxesKept]at k
  simpa using boxesKept_get k.2 id cs (by simpa using e)
 |.box _::_,[],k,_,_,_=>by simp[boxesKept]at k
 |.box _::_,.arr _ _ _::_,k,_,_,_=>by simp[boxesKept]at k
 |.box _::_,.siter _ _::_,k,_,_,_=>by simp[boxesKept]at k
 |.box _::_,.miter _::_,k,_,_,_=>by simp[boxesKept]at k
 |.box _::_,.map _ _ _::_,k,_,_,_=>by simp[boxesKept]at k
 |.arr _ _ _::h,o::h',k,0,cs,e=>by simp at e
 |.siter _ _::h,o::h',k,0,cs,e=>by simp at e
 |.miter _::h,o::h',k,0,cs,e=>by simp at e
 |.map _ _ _::h,o::h',k,0,cs,e=>by simp at e
 |.arr _ _ _::h,o::h',k,id+1,cs,e=>by
  simp only[boxesKept]at k
  simpa using boxesKept_get k id cs (by simpa using e)
 |.siter _ _::h,o::h',k,id+1,cs,e=>by
  simp only[boxesKept]at k
  simpa using boxesKept_get k id cs (by simpa using e)
 |.miter _::h,o::h',k,id+1,cs,e=>by
  simp only[boxesKept]at k
  simpa using boxesKept_get k id cs (by simpa using e)
 |.map _ _ _::h,o::h',k,id+1,cs,e=>by
  simp only[boxesKept]at k
  simpa using boxesKept_get k id cs (by simpa using e)
 |.arr _ _ _::h,[],k,0,cs,e=>by simp at e
 |.siter _ _::h,[],k,0,cs,e=>by simp at e
 |.miter _::h,[],k,0,cs,e=>by simp at e
 |.map _ _ _::h,[],k,0,cs,e=>by simp at e
 |.arr _ _ _::h,[],k,id+1,cs,e=>by
  simp only[boxesKept]at k
  have:=boxesKept_get k id cs (by simpa using e)
  simp at this
 |.siter _ _::h,[],k,id+1,cs,e=>by
  simp only[boxesKept]at k
  have:=boxesKept_get k id cs (by simpa using e)
  simp at this
 |.miter _::h,[],k,id+1,cs,e=>by
  simp only[boxesKept]at k
  have:=boxesKept_get k id cs (by simpa using e)
  simp at this
 |.map _ _ _::h,[],k,id+1,cs,e=>by
  simp only[boxesKept]at k
  have:=boxesKept_get k id cs (by simpa using e)
  simp at this
theorem seen_kept (k:boxesKept h h') (S:Seen hv h):Seen hv h':=⟨fun id cs e=>boxesKept_get k id cs (S.box id cs e),S.noarr⟩
theorem pure1_seen {A:V} {x:D} (hp:pure1 h A=some (x,h')) (S:Seen hv h):Seen hv h':=by
 cases A with
 |arr id n=>
  simp only[pure1]at hp
  split at hp
  ·rename_i ho
   split at hp
   ·simp only[Option.some.injEq,Prod.mk.injEq]at hp
    obtain⟨_,rfl⟩:=hp
    exact S.setArr ho _
   ·cases hp
  ·cases hp
 |d x=>simp only[pure1,Option.some.injEq,Prod.mk.injEq]at hp;obtain⟨_,rfl⟩:=hp;exact S
 |sl id tot off len=>
  simp only[pure1]at hp
  split at hp
  ·rename_i ho
   split at hp
   ·simp only[Option.some.injEq,Prod.mk.injEq]at hp
    obtain⟨_,rfl⟩:=hp
    exact S.setArr ho _
   ·cases hp
  ·cases hp
 |emp=>simp only[pure1,Option.some.injEq,Prod.mk.injEq]at hp;obtain⟨_,rfl⟩:=hp;exact S
 |nilS=>simp only[pure1,Option.some.injEq,Prod.mk.injEq]at hp;obtain⟨_,rfl⟩:=hp;exact S
 |_=>simp[pure1]at hp
theorem pureList_seen: ∀ {cs:List V} {xs:List D} {h h':List Obj},pureList h cs=some (xs,h')→Seen hv h→Seen hv h'
 |[],xs,h,h',hp,S=>by simp only[pureList,Option.some.injEq,Prod.mk.injEq]at hp;obtain⟨_,rfl⟩:=hp;exact S
 |c::cs,xs,h,h',hp,S=>by
  simp only[pureList]at hp
  split at hp
  ·rename_i h1
   split at hp
   ·rename_i h2
    simp only[Option.some.injEq,Prod.mk.injEq]at hp
    obtain⟨_,rfl⟩:=hp
    exact pureList_seen h2 (pure1_seen h1 S)
   ·cases hp
  ·cases hp
theorem pureV_seen {A:V} {x:D} (hp:pureV h A=some (x,h')) (S:Seen hv h):Seen hv h':=by
 unfold pureV at hp
 split at hp
 ·simp only[Option.map_eq_some_iff,Prod.exists,Prod.mk.injEq]at hp
  obtain⟨xs,h1,hl,_,rfl⟩:=hp
  exact pureList_seen hl S
 ·exact pure1_seen hp S
theorem pureVs_seen: ∀ {cs:List V} {xs:List D} {h h':List Obj},pureVs h cs=some (xs,h')→Seen hv h→Seen hv h'
 |[],xs,h,h',hp,S=>by simp only[pureVs,Option.some.injEq,Prod.mk.injEq]at hp;obtain⟨_,rfl⟩:=hp;exact S
 |c::cs,xs,h,h',hp,S=>by
  simp only[pureVs]at hp
  split at hp
  ·rename_i h1
   split at hp
   ·rename_i h2
    simp only[Option.some.injEq,Prod.mk.injEq]at hp
    obtain⟨_,rfl⟩:=hp
    exact pureVs_seen h2 (pureV_seen h1 S)
   ·cases hp
  ·cases hp
theorem argVs_seen: ∀ {cs as:List V} {h h':List Obj},cs.all argPure=true→argVs false h cs=some (as,h')→Seen hv h→Seen hv h'∧as.flatMap V.ids=[]
 |[],as,h,h',_,hp,S=>by simp only[argVs,Option.some.injEq,Prod.mk.injEq]at hp;obtain⟨rfl,rfl⟩:=hp;exact⟨S,rfl⟩
 |c::cs,as,h,h',hc,hp,S=>by
  simp only[List.all_cons,Bool.and_eq_true]at hc
  simp only[argVs]at hp
  split at hp
  ·rename_i y h1 e1
   split at hp
   ·rename_i h2
    simp only[Option.some.injEq,Prod.mk.injEq]at hp
    obtain⟨rfl,rfl⟩:=hp
    have key:Seen hv h1∧y.ids=[]:=by
     unfold argV at e1
     split at e1
     ·simp only[Bool.false_eq_true,if_false,Option.map_eq_some_iff,Prod.exists,Prod.mk.injEq]at e1
      obtain⟨x,h3,hl,rfl,rfl⟩:=e1
      exact⟨pureV_seen hl S,rfl⟩
     ·simp only[Bool.false_eq_true,if_false,Option.map_eq_some_iff,Prod.exists,Prod.mk.injEq]at e1
      obtain⟨x,h3,hl,rfl,rfl⟩:=e1
      exact⟨pureV_seen hl S,rfl⟩
     ·simp[argPure]at hc
     ·simp[argPure]at hc
     ·simp[argPure]at hc
     ·simp only[Option.some.injEq,Prod.mk.injEq]at e1;obtain⟨rfl,rfl⟩:=e1;exact⟨S,rfl⟩
     ·simp only[Option.map_eq_some_iff,Prod.exists,Prod.mk.injEq]at e1
      obtain⟨x,h3,hl,rfl,rfl⟩:=e1
      exact⟨pureV_seen hl S,rfl⟩
    obtain⟨k1,k2⟩:=argVs_seen hc.2 h2 key.1
    exact⟨k1,by simp[key.2,k2]⟩
   ·cases hp
  ·cases hp
theorem callWith_seen {run:Run} {f:FuncId} {args:List V} {x:V} (ha:args.all argPure=true) (hx:callWith false run f args h=some (x,h')) (S:Seen hv h):Seen hv h':=by
 unfold callWith at hx
 split at hx
 ·cases hx
 ·rename_i as h1 hargs
  obtain⟨S1,hids⟩:=argVs_seen ha hargs S
  simp only[hids,addIds]at hx
  have hre:reach h1 []=[]:=by simp[reach,close]
  rw[hre]at hx
  split at hx
  ·split at hx
   ·split at hx
    ·simp only[Option.some.injEq,Prod.mk.injEq]at hx
     obtain⟨_,rfl⟩:=hx
     simp only[setAll]
     exact S1.append _
    ·cases hx
   ·cases hx
  ·cases hx
theorem chillV_seen {A B:V} {h h':List Obj} (hc:chillV h A=some (B,h')) (S:Seen hv h):Seen hv h':=by
 cases A with
 |tup vs=>
  obtain⟨p,hx,e⟩:=Option.map_eq_some_iff.1 hc
  simp only[Prod.mk.injEq]at e
  obtain⟨_,rfl⟩:=e
  exact pureVs_seen hx S
 |_=>
  rw[chillV_one fun vs e=>by cases e]at hc
  obtain⟨p,hx,e⟩:=Option.map_eq_some_iff.1 hc
  simp only[Prod.mk.injEq]at e
  obtain⟨_,rfl⟩:=e
  exact pureV_seen hx S
theorem coolCells_seen: ∀ (cs:List V) {h:List Obj},Seen hv h→Seen hv (coolCells h cs).2
 |[],_,S=>S
 |c::cs,h,S=>by
  unfold coolCells
  split
  ·rename_i hx
   split at hx
   ·exact coolCells_seen cs (pure1_seen hx S)
   ·cases hx
  ·exact coolCells_seen cs S
theorem coolAt_seen {id:Nat} (S:Seen hv h) (hid: ∀cs,hv[id]? ≠some (.box cs)):Seen hv (coolAt h id):=by
 unfold coolAt
 split
 ·have S2:=coolCells_seen (hv:=hv) ‹_› S
  exact⟨fun i cs e=>by
   have hne:id≠i:=fun e2=>hid cs (by rw[e2];exact e)
   rw[List.getElem?_set_ne hne]
   exact S2.box i cs e,S2.noarr⟩
 ·exact S
theorem coolFrom_seen: ∀ (m n:Nat) {h:List Obj},Seen hv h→(∀ (id:Nat) (cs:List V),hv[id]? =some (.box cs)→id<n)→Seen hv (coolFrom m n h)
 |0,_,_,S,_=>S
 |m+1,n,h,S,hn=>coolFrom_seen m (n+1) (coolAt_seen S fun cs e=>absurd (hn n cs e) (Nat.lt_irrefl _)) fun id cs e=>Nat.lt_succ_of_lt (hn id cs e)
theorem callThaw_seen {run:Run} {f:FuncId} {args:List V} {x:V} (hx:callThaw run f args h=some (x,h')) (S:Seen hv h):Seen hv h':=by
 unfold callThaw at hx
 split at hx
 ·cases hx
 ·split at hx
  ·split at hx
   ·split at hx
    ·simp only[Option.some.injEq,Prod.mk.injEq]at hx
     obtain⟨_,rfl⟩:=hx
     exact S.append _
    ·cases hx
   ·cases hx
  ·cases hx
theorem buildSliceV_seen {t:TypeId} {n:Nat} {parts:List (Nat × V)} {x:V} (hx:buildSliceV P h t n parts=some (x,h')) (S:Seen hv h):Seen hv h':=by
 unfold buildSliceV at hx
 split at hx
 ·split at hx
  ·split at hx
   ·split at hx
    ·rename_i hp
     split at hx
     ·simp only[Option.some.injEq,Prod.mk.injEq]at hx
      obtain⟨_,rfl⟩:=hx
      exact (pureVs_seen hp S).append _
     ·cases hx
    ·cases hx
   ·cases hx
  ·cases hx
 ·cases hx
theorem appendV_seen {ts tx:TypeId} {A B x:V} (hx:appendV P h ts tx A B=some (x,h')) (S:Seen hv h):Seen hv h':=by
 unfold appendV at hx
 split at hx
 ·split at hx
  ·split at hx
   ·split at hx
    ·split at hx
     ·simp only[Option.some.injEq,Prod.mk.injEq]at hx
      obtain⟨_,rfl⟩:=hx
      exact S.append _
     ·cases hx
    ·split at hx
     ·rename_i ho
      split at hx
      ·simp only[Option.some.injEq,Prod.mk.injEq]at hx
       obtain⟨_,rfl⟩:=hx
       exact S.setArr ho _
      ·cases hx
     ·cases hx
    ·cases hx
   ·cases hx
  ·cases hx
 ·cases hx
theorem overV_seen {id tot off:Nat} {ys:List D} (hx:overV h id tot off ys=some h') (S:Seen hv h):Seen hv h':=by
 unfold overV at hx
 split at hx
 ·rename_i ho
  split at hx
  ·simp only[Option.some.injEq]at hx;subst hx
   exact S.setArr ho _
  ·cases hx
 ·cases hx
theorem copyV_seen {t:TypeId} {A B x:V} (hx:copyV P h t A B=some (x,h')) (S:Seen hv h):Seen hv h':=by
 unfold copyV at hx
 split at hx
 ·split at hx
  ·split at hx
   ·split at hx
    ·simp only[Option.map_eq_some_iff,Prod.mk.injEq]at hx
     obtain⟨h1,ho,_,rfl⟩:=hx
     exact overV_seen ho S
    ·cases hx
   ·cases hx
  ·cases hx
 ·cases hx
theorem clearV_seen {t:TypeId} {A x:V} (hx:clearV P h t A=some (x,h')) (S:Seen hv h):Seen hv h':=by
 unfold clearV at hx
 split at hx
 ·split at hx
  ·split at hx
   ·split at hx
    ·simp only[Option.map_eq_some_iff,Prod.mk.injEq]at hx
     obtain⟨h1,ho,_,rfl⟩:=hx
     exact overV_seen ho S
    ·cases hx
   ·cases hx
  ·cases hx
 ·cases hx
theorem valM_seen {y v:V} (hy:valM h y=some (v,h')) (S:Seen hv h):Seen hv h':=by
 unfold valM at hy
 split at hy
 ·simp only[Option.some.injEq,Prod.mk.injEq]at hy
  rw[← hy.2];exact S
 ·simp only[Option.map_eq_some_iff,Prod.mk.injEq]at hy
  obtain⟨⟨z,h2⟩,hp,_,rfl⟩:=hy
  exact pureV_seen hp S
theorem updateV_seen {t:TypeId} {A I Y x:V} (hx:updateV P h t A I Y=some (x,h')) (S:Seen hv h):Seen hv h':=by
 unfold updateV at hx
 split at hx
 ·rename_i hval
  split at hx
  ·rename_i ho
   split at hx
   ·simp only[Option.some.injEq,Prod.mk.injEq]at hx
    rw[← hx.2]
    exact (valM_seen hval S).setMap ho _
   ·cases hx
  ·cases hx
 ·cases hx
theorem deleteV_seen {t:TypeId} {A I x:V} (hx:deleteV P h t A I=some (x,h')) (S:Seen hv h):Seen hv h':=by
 unfold deleteV at hx
 split at hx
 ·split at hx
  ·rename_i ho
   split at hx
   ·simp only[Option.some.injEq,Prod.mk.injEq]at hx
    rw[← hx.2]
    exact S.setMap ho _
   ·cases hx
  ·cases hx
 ·cases hx
theorem opV_seen {run:Run} {s:Slots} {o:Oper} {x:V} (hm:mild G hv s o=true) (hx:opV P G run s h o=some (x,h')) (S:Seen hv h):Seen hv h':=by
 have hw: ∀ {y:Option V},withH h y=some (x,h')→Seen hv h':=fun {y} e=>by
  cases y with
  |none=>cases e
  |some y=>simp only[withH,Option.map_some,Option.some.injEq,Prod.mk.injEq]at e;rw[← e.2];exact S
 cases ho:o.op with
 |move a | assign a=>
  simp only[opV,ho,Option.some.injEq,Prod.mk.injEq]at hx;rw[← hx.2];exact S
 |pick _ _ _ | binOp _ _ _ _ _ | unOp _ _ _ | fieldAddr _ _ _ | extract _ _ | field _ _ _ | index _ _ _ | typeAssert _ _ _ _ | build _ _ | load _ _ | slice _ _ _ _ _ | indexAddr _ _ _ | lookup _ _ _ _=>
  simp only[opV,ho]at hx
  exact hw hx
 |makeMap t rv=>
  cases rv with
  |none=>simp only[opV,ho,Option.some.injEq,Prod.mk.injEq]at hx;rw[← hx.2];exact S.append _
  |some _=>simp[opV,ho]at hx
 |mapUpdate _ _ _ _=>simp only[opV,ho]at hx;exact updateV_seen hx S
 |nilCheck a=>
  simp only[opV,ho]at hx
  cases hv':ev G s a <;> simp only[hv',nilCheckV,Option.some.injEq,Prod.mk.injEq,reduceCtorEq]at hx <;> (rw[← hx.2];exact S)
 |alloc t=>
  simp only[opV,ho,allocV]at hx
  split at hx
  ·split at hx
   ·simp only[Option.some.injEq,Prod.mk.injEq]at hx;rw[← hx.2];exact S.append _
   ·cases hx
  ·cases hx
 |box t a=>
  simp only[opV,ho]at hx
  split at hx
  ·simp only[Option.some.injEq,Prod.mk.injEq]at hx;rw[← hx.2];exact S.append _
  ·cases hx
 |buildSlice _ _ _=>simp only[opV,ho]at hx;exact buildSliceV_seen hx S
 |convert src dst a=>
  simp only[opV,ho]at hx
  unfold convV at hx
  split at hx
  ·split at hx
   ·split at hx
    ·simp only[Option.some.injEq,Prod.mk.injEq]at hx;rw[← hx.2];exact S.append _
    ·cases hx
   ·split at hx
    ·simp only[Option.some.injEq,Prod.mk.injEq]at hx;rw[← hx.2];exact S.append _
    ·cases hx
   ·cases hx
  ·split at hx
   ·split at hx
    ·simp only[Option.some.injEq,Prod.mk.injEq]at hx;rw[← hx.2];exact S
    ·cases hx
   ·cases hx
  ·simp only[Option.map_eq_some_iff,Prod.mk.injEq]at hx
   obtain⟨_,_,_,rfl⟩:=hx
   exact S
 |makeInterface t a=>
  simp only[opV,ho,ifaceV]at hx
  split at hx
  ·cases hx
  ·simp only[Option.map_eq_some_iff,Prod.exists,Prod.mk.injEq]at hx
   obtain⟨y,h1,hp,_,rfl⟩:=hx
   exact pureV_seen hp S
  ·cases hx
 |makeFunc fn first cap=>
  cases fn <;> simp only[opV,ho]at hx
  ·split at hx
   ·simp only[Option.some.injEq,Prod.mk.injEq]at hx;rw[← hx.2];exact S
   ·cases hx
  all_goals cases hx
 |makeSlice t l c=>
  simp only[opV,ho]at hx
  split at hx
  ·unfold makeRowsV at hx
   split at hx
   ·split at hx
    ·split at hx
     ·simp only[Option.some.injEq,Prod.mk.injEq]at hx;rw[← hx.2];exact S.append _
     ·cases hx
    ·cases hx
   ·cases hx
  ·unfold makeSliceV at hx
   split at hx
   ·split at hx
    ·split at hx
     ·simp only[Option.some.injEq,Prod.mk.injEq]at hx;rw[← hx.2];exact S.append _
     ·cases hx
    ·cases hx
   ·cases hx
 |range t a=>
  simp only[opV,ho,rangeOpV]at hx
  split at hx
  ·simp only[Option.some.injEq,Prod.mk.injEq]at hx;rw[← hx.2];exact S.append _
  ·split at hx
   ·simp only[Option.some.injEq,Prod.mk.injEq]at hx;rw[← hx.2];exact S.append _
   ·cases hx
  ·cases hx
 |next a b=>
  cases b
  ·simp only[opV,ho]at hx
   unfold nextM at hx
   split at hx
   ·split at hx
    ·split at hx
     ·simp only[Option.some.injEq,Prod.mk.injEq]at hx;rw[← hx.2];exact S
     ·cases hx
    ·cases hx
   ·cases hx
  simp only[opV,ho]at hx
  unfold nextV at hx
  split at hx
  ·split at hx
   ·rename_i ho'
    simp only[Option.some.injEq]at hx
    unfold iterStep at hx
    split at hx
    ·simp only[Prod.mk.injEq]at hx;rw[← hx.2];exact S.setIter ho' _
    ·simp only[Prod.mk.injEq]at hx;rw[← hx.2];exact S
   ·cases hx
  ·cases hx
 |store t a y=>
  simp only[mild,ho]at hm
  simp only[opV,ho,Option.map_eq_some_iff,Prod.mk.injEq]at hx
  obtain⟨h2,hs,_,rfl⟩:=hx
  revert hm hs
  cases ev G s a <;> intro hm hs <;> simp only[masked,Bool.false_eq_true]at hm
  rename_i id off
  have hn: ∀cs,hv[id]? ≠some (.box cs):=fun cs e=>by rw[e]at hm;cases hm
  have hset: ∃o,h2=h.set id o:=by
   simp only[storeV]at hs
   split at hs
   ·split at hs
    ·split at hs
     ·exact⟨_,(Option.some.inj hs).symm⟩
     ·cases hs
    ·cases hs
   ·cases hs
  obtain⟨o2,rfl⟩:=hset
  exact⟨fun id' cs e=>by
   have hne:id≠id':=fun e2=>hn cs (by rw[e2];exact e)
   rw[List.getElem?_set_ne hne]
   exact S.box id' cs e,S.noarr⟩
 |call c=>
  simp only[opV,ho]at hx
  simp only[mild,ho]at hm
  cases hc:c.callee with
  |invoke _ _=>rw[hc]at hx;cases hx
  |builtin b=>
   rw[hc]at hx
   by_cases hb:b= .delete
   ·subst hb
    simp only at hx
    split at hx
    ·exact deleteV_seen hx S
    ·cases hx
   have hx2:builtinV P h b c.argTypes.toList (c.args.toList.map (ev G s))=some (x,h'):=by
    cases b <;> first | exact hx | exact absurd rfl hb
   clear hx
   rename _=>hx
   unfold builtinV at hx
   split at hx
   ·simp only[Option.map_eq_some_iff,Prod.mk.injEq]at hx;obtain⟨_,_,_,rfl⟩:=hx;exact S
   ·refine appendV_seen hx ?_
    unfold coolV
    split
    ·split
     ·split
      ·rename_i hp
       exact pureList_seen hp S
      ·exact S
     ·exact S
    ·exact S
   ·exact copyV_seen hx S
   ·exact clearV_seen hx S
   ·simp only[Option.map_eq_some_iff,Prod.mk.injEq]at hx;obtain⟨_,_,_,rfl⟩:=hx;exact S
   ·simp only[Option.map_eq_some_iff,Prod.mk.injEq]at hx;obtain⟨_,_,_,rfl⟩:=hx;exact S
   ·cases hx
  |value f=>
   rw[hc]at hx hm
   simp only at hx hm
   split at hm
   ·rename_i g hg
    rw[hg]at hx
    simp only[calleeV]at hx
    split at hx
    ·split at hx
     ·exact seen_kept (guardKeep_some hx).2 S
     split at hx
     ·rename_i hk _
      obtain⟨q,hq,e⟩:=Option.map_eq_some_iff.1 hx
      simp only[Prod.mk.injEq]at e
      obtain⟨_,rfl⟩:=e
      simp only[Bool.or_eq_true,Bool.and_eq_true]at hm
      have hm':=hm.resolve_right fun h=>hk h.2
      have hb:byRef G g=false:=by simpa using hm'.1
      rw[hb]at hq
      exact coolFrom_seen _ _ (callWith_seen hm'.2 hq S) fun id cs e=>lt_of_getElem? (S.box id cs e)
     split at hx
     ·rename_i hk _ _
      obtain⟨q,hq,e⟩:=Option.bind_eq_some_iff.1 hx
      simp only[Bool.or_eq_true,Bool.and_eq_true]at hm
      have hm':=hm.resolve_right fun h=>hk h.2
      have hb:byRef G g=false:=by simpa using hm'.1
      rw[hb]at hq
      exact chillV_seen e (callWith_seen hm'.2 hq S)
     ·exact callThaw_seen hx S
    ·rename_i ht
     simp only[Bool.or_eq_true,Bool.and_eq_true]at hm
     have hm':=hm.resolve_right fun h=>ht h.1
     have hb:byRef G g=false:=by simpa using hm'.1
     rw[hb]at hx
     exact callWith_seen hm'.2 hx S
   ·simp at hm
 |_=>simp[opV,ho]at hx
theorem getD_set {tmps:Array Value} {d t:Nat} {v:Value} (hd:d<tmps.size):(tmps.setIfInBounds d v).getD t undef=if d=t then v else tmps.getD t undef:=by
 simp only[Array.getD_eq_getD_getElem?,Array.getElem?_setIfInBounds]
 by_cases e:d=t
 ·subst e;simp[hd]
 ·simp[e]
theorem SRel.put {a:Act} {s:Slots} {dst:Option Tmp} {v:Value} {x:V} (hs:SRel X ρ h w a.tmps s) (hv:VRel X ρ h w v x) (hd: ∀d,dst=some d→d<a.tmps.size):SRel X ρ h w (a.put dst v).tmps (putV s dst x):=by
 cases dst with
 |none=>exact hs
 |some d=>
  intro t
  simp only[Act.put,putV,sget,getD_set (hd d rfl)]
  split
  ·exact hv
  ·exact hs t
theorem put_size (a:Act) (dst:Option Tmp) (v:Value):(a.put dst v).tmps.size=a.tmps.size:=by
 cases dst <;> simp[Act.put]
theorem put_defers (a:Act) (dst:Option Tmp) (v:Value):(a.put dst v).defers=a.defers:=by
 cases dst <;> rfl
theorem wanted_sound {all:List Oper} {s:Slots} {a:Act} {o:Oper} {b:Bool} (hw:wantedV all s o.guard=some b) (hs:SRel X ρ h w a.tmps s):Region.wanted o (yielded all.toArray a.tmps)=b:=by
 unfold wantedV at hw
 unfold Region.wanted
 cases hgu:o.guard with
 |none=>rw[hgu]at hw;simpa using hw
 |some p=>
  obtain⟨j,want⟩:=p
  rw[hgu]at hw
  simp only at hw ⊢
  have hy: ∀d,(all[j]?).bind (·.dst)=some d→yielded all.toArray a.tmps j=(match a.tmps[d]? with | some (.bool b)=>some b | _=>none):=fun d hd=>by
   have e:((all.toArray[j]?).bind (·.dst)).bind (a.tmps[·]?)=a.tmps[d]? :=by rw[List.getElem?_toArray,hd];rfl
   unfold yielded
   rw[e]
   cases a.tmps[d]? with
   |none=>rfl
   |some v=>cases v <;> rfl
  split at hw
  ·rename_i hn
   simp only[Option.some.injEq]at hw;subst hw
   have:yielded all.toArray a.tmps j=none:=by simp[yielded,hn]
   rw[this];rfl
  ·rename_i d hd
   rw[hy d hd]
   have hr:=hs d
   have hgd:a.tmps.getD d undef=(a.tmps[d]?).getD undef:=by simp[Array.getD_eq_getD_getElem?]
   rw[hgd]at hr
   split at hw
   ·rename_i b' hb
    simp only[Option.some.injEq]at hw;subst hw
    rw[hb]at hr
    cases ht:a.tmps[d]? with
    |none=>rw[ht]at hr;cases hr
    |some v=>
     rw[ht]at hr
     simp only[Option.getD_some]at hr
     cases hr
     simp
   ·rename_i hb
    simp only[Option.some.injEq]at hw;subst hw
    rw[hb]at hr
    obtain⟨us,hu,_⟩:=hr
    cases ht:a.tmps[d]? with
    |none=>rfl
    |some v=>
     rw[ht]at hu
     simp only[Option.getD_some]at hu
     subst hu
     rfl
   ·cases hw
structure St (X:Nat→Nat→Prop) (G:Nat→Option (List D)) (nt:Nat) (ρ:Places) (h:List Obj) (w:World) (a:Act) (s:Slots):Prop where
 rel:HRel X ρ h w
 glob:GRel X G ρ h w
 slots:SRel X ρ h w a.tmps s
 size:a.tmps.size=nt
theorem stepI_sound {r:Option Nat} {n:Nat} {run:Run} {nt:Nat} {all:List Oper} {hint:List Nat} {Q:Exit→Act→World→Prop} (hrun:RunOk P G run) (hhas:RunHas P run) (hdst: ∀o∈all, ∀d,o.dst=some d→d<nt)
 {i:Nat} {s s1:Slots} {h h1:List Obj} {a:Act} {K:Act→World→Prop} (hr:stepI P G run all hint hv i s h=some (s1,h1)) (S:St X G nt ρ h w a s) (hseen:hint.contains i=true→Seen hv h)
 {k bid:Nat} (hkl:k≤h.length) (hborn:hint.contains i=true→isAllocAt all i=true→Unb ρ h bid∧k≤bid∧bid+1=hv.length)
 (hk: ∀ρ1 a1 w1,Stb k X ρ h w ρ1 h1 w1→St X G nt ρ1 h1 w1 a1 s1→a1.defers=a.defers→h.length≤h1.length→(¬ (hint.contains i=true∧isAllocAt all i=true)→Unb ρ h bid→Unb ρ1 h1 bid)→K a1 w1):wpOpIn (Fw r) n P all.toArray Q i K a w:=by
 unfold wpOpIn
 simp only[stepI,execI]at hr
 have cont: ∀ (dst:Option Tmp) (x:V),(∀d,dst=some d→d<nt)→putV s dst x=s1→ ∀v ρ' w',Stp X ρ h w ρ' h1 w'→VRel X ρ' h1 w' v x→K (a.put dst v) w':=fun dst x hd e v ρ1 w1 st hv=>
  hk ρ1 _ w1 (st.stb hkl) ⟨st.rel,S.glob.mono st.fr,e ▸ SRel.put (S.slots.mono st) hv (fun d e=>by rw[S.size];exact hd d e),(put_size _ _ _).trans S.size⟩ (put_defers _ _ _) (st.evo.le S.rel) fun _ u=>u.stp st
 cases hi:all[i]? with
 |none=>
  rw[hi]at hr
  have hi':all.toArray[i]? =none:=by simpa using hi
  rw[hi']
  simp only[Option.some.injEq,Prod.mk.injEq]at hr
  obtain⟨rfl,rfl⟩:=hr
  exact hk ρ a w ((Stp.refl S.rel).stb hkl) S rfl (Nat.le_refl _) fun _ u=>u
 |some o=>
  rw[hi]at hr
  have hi':all.toArray[i]? =some o:=by simpa using hi
  rw[hi']
  simp only at hr ⊢
  have hd:=hdst o (List.mem_of_getElem? hi)
  cases hw:wantedV all s o.guard with
  |none=>rw[hw]at hr;cases hr
  |some b=>
   rw[hw]at hr
   rw[wanted_sound hw S.slots]
   cases b with
   |false=>
    simp only[obind,Bool.false_eq_true,if_false,Option.some.injEq,Prod.mk.injEq]at hr ⊢
    obtain⟨e,rfl⟩:=hr
    exact⟨fun _ _=>trivial,cont o.dst (.tup []) hd e undef ρ w (Stp.refl S.rel) ⟨#[],rfl,rfl,fun j c hj=>by simp at hj⟩⟩
   |true=>
    simp only[obind,if_true]at hr ⊢
    have hop: ∀x,opV P G run s h o=some (x,h1)→putV s o.dst x=s1→o.wpIn (Fw r) n P a w K Q:=fun x hx e=>
     opV_sound hrun hhas hx S.rel S.glob S.slots fun v ρ1 w1 st hv=>cont o.dst x hd e v ρ1 w1 st hv
    cases hc:hint.contains i with
    |true=>
     rw[hc,if_pos rfl]at hr
     cases hb:hintV P G run hv s o with
     |none=>rw[hb]at hr;cases hr
     |some x=>
      rw[hb]at hr
      simp only[withH,Option.map_some,Option.some.injEq,Prod.mk.injEq]at hr
      obtain⟨e,rfl⟩:=hr
      unfold hintV at hb
      split at hb
      ·rename_i hal
       have hat:isAllocAt all i=true:=by unfold isAllocAt;rw[hi];exact hal
       obtain⟨hu,hkb,hbid⟩:=hborn hc hat
       unfold bornV at hb
       split at hb
       ·rename_i t ho
        cases hq:allocV P hv.dropLast t with
        |none=>rw[hq]at hb;cases hb
        |some q=>
         obtain⟨v,h2⟩:=q
         rw[hq]at hb
         simp only[obind]at hb
         split at hb
         ·rename_i h2e
          simp only[Option.some.injEq]at hb
          subst hb
          have h2e:h2=hv:=h2e
          unfold allocV at hq
          split at hq
          ·rename_i z hz
           split at hq
           ·rename_i hok
            simp only[Option.some.injEq,Prod.mk.injEq]at hq
            obtain⟨rfl,hq⟩:=hq
            have hbd:hv.dropLast.length=bid:=by rw[List.length_dropLast];omega
            have e2:=hq.trans h2e
            have hvb:hv[bid]? =some (.box (z.cells.toList.map constCell)):=by
             have:(hv.dropLast++[Obj.box (z.cells.toList.map constCell)])[bid]? =some (.box (z.cells.toList.map constCell)):=by rw[← hbd];simp
             rwa [e2]at this
            have hob:=(hseen hc).box _ _ hvb
            obtain⟨st,him,hvr⟩:=birth_step (e:=t) (us:=z.cells) S.rel hu.1 hob (fun ρ w=>cellsRel_const (ρ:=ρ) (h:=h) (w:=w) z.cells.toList hok) hkb
            have hnd: ∀c,o.op≠ .defer c:=fun c e=>by rw[ho]at e;cases e
            have hrun:(execOp a.eval o).run P w= .ok (.value (.pointer (some ⟨w.heap.size,0,none⟩))) (w.alloc (.cells z.cells t)):=by simp[execOp,ho,Instr.alloc,zeroValue_run hz,newVar,newRow]
            refine⟨fun _ _=>trivial, ?_⟩
            rw[semAt_eq hnd,hrun]
            rw[hbd]at e
            exact hk _ _ _ st ⟨st.rel,S.glob.mono st.fr,e ▸ SRel.put (fun t=>(S.slots t).birth hu.1 hob him) hvr (fun d e=>by rw[S.size];exact hd d e),(put_size _ _ _).trans S.size⟩ (put_defers _ _ _) (Nat.le_refl _) fun hn _=>absurd ⟨hc,hat⟩ hn
           ·cases hq
          ·cases hq
         ·cases hb
       ·cases hb
      split at hb
      ·exact isle_wp hrun hhas hb S.rel S.glob S.slots fun v ρ1 w1 st hv=>cont o.dst x hd e v ρ1 w1 st hv
      ·exact hop x (blindV_op (hseen hc) hb) e
    |false=>
     rw[hc,if_neg (by decide)]at hr
     cases hm:(hint.isEmpty || hv.isEmpty || mild G hv s o || lateStore hint i o) with
     |false=>
      rw[hm,if_neg (by decide)]at hr
      cases hx:seenG hv (opV P G run s h o) with
      |none=>rw[hx]at hr;cases hr
      |some p=>
       obtain⟨x,h2⟩:=p
       rw[hx]at hr
       simp only[Option.some.injEq,Prod.mk.injEq]at hr
       obtain⟨e,rfl⟩:=hr
       exact hop x (seenG_some hx).1 e
     |true=>
     rw[hm,if_pos rfl]at hr
     cases hx:opV P G run s h o with
     |none=>rw[hx]at hr;cases hr
     |some p=>
      obtain⟨x,h2⟩:=p
      rw[hx]at hr
      simp only[Option.some.injEq,Prod.mk.injEq]at hr
      obtain⟨e,rfl⟩:=hr
      exact hop x hx e
theorem stepI_seen {run:Run} {all:List Oper} {hint:List Nat} {i:Nat} {s s1:Slots} {h1:List Obj} (hr:stepI P G run all hint hv i s h=some (s1,h1)) (hne:hint≠[]) (S:Seen hv h) (hl:hv=[]∨ ∀o,all[i]? =some o→lateStore hint i o=false):Seen hv h1:=by
 simp only[stepI,execI]at hr
 cases hi:all[i]? with
 |none=>rw[hi]at hr;simp only[Option.some.injEq,Prod.mk.injEq]at hr;rw[← hr.2];exact S
 |some o=>
  rw[hi]at hr
  simp only at hr
  cases hw:wantedV all s o.guard with
  |none=>rw[hw]at hr;cases hr
  |some b=>
   rw[hw]at hr
   cases b with
   |false=>simp only[obind,Bool.false_eq_true,if_false,Option.some.injEq,Prod.mk.injEq]at hr;rw[← hr.2];exact S
   |true=>
    simp only[obind,if_true]at hr
    cases hc:hint.contains i with
    |true=>
     rw[hc,if_pos rfl]at hr
     cases hb:hintV P G run hv s o with
     |none=>rw[hb]at hr;cases hr
     |some x=>rw[hb]at hr;simp only[withH,Option.map_some,Option.some.injEq,Prod.mk.injEq]at hr;rw[← hr.2];exact S
    |false=>
     rw[hc,if_neg (by decide)]at hr
     cases hm:(hint.isEmpty || hv.isEmpty || mild G hv s o || lateStore hint i o) with
     |false=>
      rw[hm,if_neg (by decide)]at hr
      cases hx:seenG hv (opV P G run s h o) with
      |none=>rw[hx]at hr;cases hr
      |some p=>
       obtain⟨x,h2⟩:=p
       rw[hx]at hr
       simp only[Option.some.injEq,Prod.mk.injEq]at hr
       rw[← hr.2]
       exact⟨fun id cs e=>boxesKept_get (seenG_some hx).2 id cs e,S.noarr⟩
     |true=>
     rw[hm,if_pos rfl]at hr
     have hemp:hint.isEmpty=false:=by cases hint with | nil=>exact absurd rfl hne | cons _ _=>rfl
     rw[hemp,Bool.false_or]at hm
     cases hv with
     |nil=>exact seen_nil _
     |cons o0 hv0=>
     rw[(hl.resolve_left (by simp)) o hi]at hm
     simp only[List.isEmpty_cons,Bool.false_or,Bool.or_false]at hm
     cases hx:opV P G run s h o with
     |none=>rw[hx]at hr;cases hr
     |some p=>
      obtain⟨x,h2⟩:=p
      rw[hx]at hr
      simp only[Option.some.injEq,Prod.mk.injEq]at hr
      rw[← hr.2]
      exact opV_seen hm hx S
theorem runL_sound {r:Option Nat} {n:Nat} {run:Run} {nt:Nat} {all:List Oper} {Q:Exit→Act→World→Prop} (hrun:RunOk P G run) (hhas:RunHas P run) (hdst: ∀o∈all, ∀d,o.dst=some d→d<nt):
 ∀ (l:List Nat) (ρ:Places) (s:Slots) (h:List Obj) (a:Act) (w:World) (s':Slots) (h':List Obj),runL P G run all [] hv l s h=some (s',h')→St X G nt ρ h w a s→
  (∀ρ' a' w',Stp X ρ h w ρ' h' w'→St X G nt ρ' h' w' a' s'→a'.defers=a.defers→Q .normal a' w')→wpOpsIn (Fw r) n P all.toArray Q l a w
 |[],ρ,s,h,a,w,s',h',hr,S,hq=>by
  simp only[runL,Option.some.injEq,Prod.mk.injEq]at hr;obtain⟨rfl,rfl⟩:=hr
  exact hq ρ a w (Stp.refl S.rel) S rfl
 |i::l,ρ,s,h,a,w,s',h',hr,S,hq=>by
  rw[wpOpsIn_cons]
  simp only[runL]at hr
  cases hs:stepI P G run all [] hv i s h with
  |none=>rw[hs]at hr;cases hr
  |some p=>
   obtain⟨s1,h1⟩:=p
   rw[hs]at hr
   exact stepI_sound (bid:=0) hrun hhas hdst hs S (fun c=>by simp at c) (Nat.le_refl _) (fun c=>by simp at c) fun ρ1 a1 w1 st S1 hd1 _ _=>
    runL_sound hrun hhas hdst l ρ1 s1 h1 a1 w1 s' h' hr S1 fun ρ2 a2 w2 st2 S2 hd2=>hq ρ2 a2 w2 (st.stp.trans S.rel st2) S2 (hd2.trans hd1)
end
end Go.Am
namespace Go.Am
section
variable {P:Program} {G:Nat→Option (List D)} {run:Run}
theorem opV_congr {s s':Slots} (o:Oper) (h:List Obj) (he: ∀x∈o.op.operands,ev G s x=ev G s' x):opV P G run s h o=opV P G run s' h o:=by
 obtain⟨dst,op,type,pos,after,guard⟩:=o
 have pairs: ∀ps:Array (Nat × Operand),(∀x∈ps.map (·.2),ev G s x=ev G s' x)→
  (ps.toList.map fun p=>(p.1,ev G s p.2))=(ps.toList.map fun p=>(p.1,ev G s' p.2)):=fun ps hp=>
  List.map_congr_left fun p hm=>by
   obtain⟨i,x⟩:=p
   simp only[hp x (Array.mem_map.2 ⟨(i,x),by simpa using hm,rfl⟩)]
 cases op <;> simp only[Op.operands]at he <;> simp only[opV]
 case build t ps=>rw[pairs ps fun x hx=>he x (by simpa using hx)]
 case buildSlice t n ps=>rw[pairs ps fun x hx=>he x (by simpa using hx)]
 case makeFunc fn first captured=>
  have:captured.toList.map (ev G s)=captured.toList.map (ev G s'):=List.map_congr_left fun x hx=>he x (by simp only[Array.mem_append];exact .inr (by simpa using hx))
  cases fn <;> simp only[this]
 case call c=>
  have hargs:c.args.toList.map (ev G s)=c.args.toList.map (ev G s'):=List.map_congr_left fun x hx=>he x (by simp only[Call.operands];simp;exact .inr (by simpa using hx))
  simp only[hargs]
  cases hc:c.callee with
  |value f=>have hf:ev G s f=ev G s' f:=he f (by simp[Call.operands,hc]);simp only[hf];rfl
  |invoke r m=>rfl
  |builtin b=>cases b <;> rfl
 case makeMap t rv=>cases rv <;> rfl
 case slice t x lo hi mx=>cases lo <;> cases hi <;> cases mx <;> simp_all
 case next it b=>
  have e:=he it (by simp)
  cases b
  ·show nextM h (ev G s it)=nextM h (ev G s' it)
   rw[e]
  ·show nextV h (ev G s it)=nextV h (ev G s' it)
   rw[e]
 all_goals (first | rfl | (simp_all;done))
theorem blindV_congr {hv:List Obj} {s s':Slots} (o:Oper) (he: ∀x∈o.op.operands,ev G s x=ev G s' x):blindV P G run hv s o=blindV P G run hv s' o:=by
 obtain⟨dst,op,type,pos,after,guard⟩:=o
 cases op <;> simp only[Op.operands]at he <;> simp only[blindV]
 case call c=>
  have hargs:c.args.toList.map (ev G s)=c.args.toList.map (ev G s'):=List.map_congr_left fun x hx=>he x (by simp only[Call.operands];simp;exact .inr (by simpa using hx))
  cases hc:c.callee with
  |value f=>
   have hf:ev G s f=ev G s' f:=he f (by simp[Call.operands,hc])
   simp only[hargs,hf]
  |invoke r m=>simp only[hargs]
  |builtin b=>
   simp only[hargs]
   generalize List.map (ev G s') c.args.toList=l
   generalize c.argTypes.toList=t
   cases b <;> cases t <;> cases l <;> rfl
 case slice t x lo hi mx=>cases lo <;> cases hi <;> cases mx <;> simp_all
 all_goals (first | rfl | (simp_all;done))
theorem ev_dataS {s s':Slots} {x:Operand} (he:ev G s x=ev G s' x):ev G (dataS s) x=ev G (dataS s') x:=by
 cases x with
 |tmp t=>
  show sget (dataS s) t=sget (dataS s') t
  have:sget s t=sget s' t:=he
  rw[sget_data,sget_data,this]
 |const v=>rfl
 |global g=>rfl
 |func f=>rfl
theorem hintV_congr {hv:List Obj} {s s':Slots} (o:Oper) (he: ∀x∈o.op.operands,ev G s x=ev G s' x):hintV P G run hv s o=hintV P G run hv s' o:=by
 have e1:isles G s o=isles G s' o:=by
  unfold isles
  cases ho:o.op with
  |call c=>
   rw[ho]at he
   simp only[Op.operands]at he
   cases hc:c.callee with
   |value f=>
    have hf:ev G s f=ev G s' f:=he f (by simp[Call.operands,hc])
    simp only[hc,hf]
   |invoke _ _=>simp only[hc]
   |builtin _=>simp only[hc]
  |_=>rfl
 have e2:isleV P G run s o=isleV P G run s' o:=by
  unfold isleV
  rw[opV_congr o [] fun x hx=>ev_dataS (he x hx)]
 unfold hintV
 rw[e1,e2,blindV_congr o he]
theorem mild_congr {hv:List Obj} {s s':Slots} (o:Oper) (he: ∀x∈o.op.operands,ev G s x=ev G s' x):mild G hv s o=mild G hv s' o:=by
 unfold mild
 cases ho:o.op with
 |call c=>
  rw[ho]at he
  simp only[Op.operands]at he
  cases hc:c.callee with
  |value f=>
   have hf:ev G s f=ev G s' f:=he f (by simp[Call.operands,hc])
   have hargs:c.args.toList.map (ev G s)=c.args.toList.map (ev G s'):=List.map_congr_left fun x hx=>he x (by simp only[Call.operands];simp;exact .inr (by simpa using hx))
   simp only[hc,hf,hargs]
  |invoke _ _=>simp only[hc]
  |builtin _=>simp only[hc]
 |store t a v=>
  rw[ho]at he
  simp only[Op.operands]at he
  simp only[he a (by simp)]
 |_=>rfl
theorem execI_congr {hint:List Nat} {hv:List Obj} {i:Nat} {s s':Slots} (o:Oper) (h:List Obj) (he: ∀x∈o.op.operands,ev G s x=ev G s' x):
 execI P G run hint hv i s h o=execI P G run hint hv i s' h o:=by
 unfold execI
 rw[opV_congr o h he,hintV_congr o he,mild_congr o he]
def Free (P:Program) (G:Nat→Option (List D)) (run:Run) (hint:List Nat) (hv:List Obj) (i:Nat) (o:Oper):Prop:=
 ∀s h x h1,execI P G run hint hv i s h o=some (x,h1)→h1=h∧ ∀h',execI P G run hint hv i s h' o=some (x,h')
def Quiet (P:Program) (G:Nat→Option (List D)) (run:Run) (hint:List Nat) (hv:List Obj) (i:Nat) (o:Oper):Prop:=
 ∀s h x h1,execI P G run hint hv i s h o=some (x,h1)→h1=h
theorem free_of_hint {hint:List Nat} {hv:List Obj} {i:Nat} {o:Oper} (hc:hint.contains i=true):Free P G run hint hv i o:=by
 intro s h x h1 hx
 unfold execI at*
 rw[if_pos hc]at hx
 cases hb:hintV P G run hv s o with
 |none=>rw[hb]at hx;cases hx
 |some y=>
  rw[hb]at hx
  simp only[withH,Option.map_some,Option.some.injEq,Prod.mk.injEq]at hx
  obtain⟨rfl,rfl⟩:=hx
  exact⟨rfl,fun h'=>by rw[if_pos hc];rfl⟩
theorem withH_free {h h1:List Obj} {y:Option V} {x:V} (hx:withH h y=some (x,h1)):h1=h∧y=some x:=by
 cases y with
 |none=>cases hx
 |some y=>simp only[withH,Option.map_some,Option.some.injEq,Prod.mk.injEq]at hx;exact⟨hx.2.symm,by rw[hx.1]⟩
theorem convV_int {src dst:TypeId} {k:IntKind} (hd:P.underlying dst=some (.int k)) {A:V} {h h1:List Obj} {x:V} (hx:convV P h src dst A=some (x,h1)):
 h1=h∧ ∀h',convV P h' src dst A=some (x,h'):=by
 have e: ∀h,convV P h src dst A=(readConvV P h src dst A).map fun x=>(x,h):=fun h=>by
  unfold convV
  split
  ·rename_i hd';rw[hd]at hd';cases hd'
  ·rename_i hd';rw[hd]at hd';cases hd'
  ·rfl
 have r: ∀h h',readConvV P h src dst A=readConvV P h' src dst A:=fun h h'=>by
  unfold readConvV
  rw[hd]
  split <;> simp_all
 rw[e h]at hx
 simp only[Option.map_eq_some_iff,Prod.mk.injEq]at hx
 obtain⟨y,hy,rfl,rfl⟩:=hx
 exact⟨rfl,fun h'=>by rw[e h',r h' h,hy];rfl⟩
theorem convV_string {src dst:TypeId} (hd:P.underlying dst=some .string) {A:V} {h h1:List Obj} {x:V} (hx:convV P h src dst A=some (x,h1)):h1=h:=by
 unfold convV at hx
 split at hx
 ·rename_i hd';rw[hd]at hd';cases hd'
 ·rename_i hd';rw[hd]at hd';cases hd'
 ·simp only[Option.map_eq_some_iff,Prod.mk.injEq]at hx
  obtain⟨y,hy,rfl,rfl⟩:=hx
  rfl
theorem builtinV_fold {b:Builtin} (hb:b= .min∨b= .max) {h h1:List Obj} {ts:List TypeId} {args:List V} {x:V} (hx:builtinV P h b ts args=some (x,h1)):
 h1=h∧ ∀h',builtinV P h' b ts args=some (x,h'):=by
 rcases hb with rfl | rfl <;> cases args with
 |nil=>simp[builtinV]at hx
 |cons A Ar=>
  simp only[builtinV,Option.map_eq_some_iff,Prod.mk.injEq]at hx ⊢
  obtain⟨y,hy,rfl,rfl⟩:=hx
  simp[hy]
theorem builtinV_len {h h1:List Obj} {ts:List TypeId} {args:List V} {x:V} (hx:builtinV P h .len ts args=some (x,h1)):h1=h:=by
 cases ts with
 |nil=>simp[builtinV]at hx
 |cons t ts=>
  cases args with
  |nil=>simp[builtinV]at hx
  |cons A Ar=>
   simp only[builtinV,Option.map_eq_some_iff,Prod.mk.injEq]at hx
   obtain⟨y,hy,rfl,rfl⟩:=hx
   rfl
theorem mild_of {hv:List Obj} {s:Slots} {o:Oper} (hc:classOf P o= .still∨classOf P o= .reads):mild G hv s o=true:=by
 unfold classOf at hc
 unfold mild
 cases ho:o.op with
 |call c=>
  rw[ho]at hc
  simp only at hc ⊢
  cases hcc:c.callee with
  |value f=>rw[hcc]at hc;simp at hc
  |builtin b=>rfl
  |invoke _ _=>rfl
 |store _ _ _=>rw[ho]at hc;simp at hc
 |_=>rfl
theorem still_free {hint:List Nat} {hv:List Obj} {i:Nat} {o:Oper} (hc:classOf P o= .still):Free P G run hint hv i o:=by
 by_cases hh:hint.contains i=true
 ·exact free_of_hint hh
 intro s h x h1 hx
 unfold execI at*
 rw[if_neg hh]at hx
 have hm:(hint.isEmpty || hv.isEmpty || mild G hv s o || lateStore hint i o)=true:=by rw[mild_of (.inl hc)];simp
 rw[if_pos hm]at hx
 simp only[if_neg hh,if_pos hm]
 cases ho:o.op with
 |move a | assign a=>
  simp only[opV,ho,Option.some.injEq,Prod.mk.injEq]at hx ⊢;obtain⟨rfl,rfl⟩:=hx;simp
 |pick _ _ _ | binOp _ _ _ _ _ | unOp _ _ _ | fieldAddr _ _ _ | extract _ _ | field _ _ _ | index _ _ _ | typeAssert _ _ _ _ | build _ _=>
  simp only[opV,ho]at hx ⊢
  obtain⟨rfl,hy⟩:=withH_free hx
  exact⟨rfl,fun h'=>by rw[hy];rfl⟩
 |nilCheck a=>
  simp only[opV,ho]at hx ⊢
  cases hv:ev G s a <;> simp only[hv,nilCheckV,Option.some.injEq,Prod.mk.injEq,reduceCtorEq]at hx ⊢ <;> (obtain⟨rfl,rfl⟩:=hx;simp)
 |convert src dst a=>
  simp only[opV,ho]at hx ⊢
  simp only[classOf,ho]at hc
  split at hc
  ·rename_i k hk;exact convV_int hk hx
  ·cases hc
  ·cases hc
 |call c=>
  simp only[classOf,ho]at hc
  simp only[opV,ho]at hx ⊢
  split at hc
  ·cases hc
  ·rename_i hcc
   simp only[hcc]at hx ⊢
   exact builtinV_fold (.inl rfl) hx
  ·rename_i hcc
   simp only[hcc]at hx ⊢
   exact builtinV_fold (.inr rfl) hx
  ·cases hc
 |_=>simp[classOf,ho]at hc
theorem reads_quiet {hint:List Nat} {hv:List Obj} {i:Nat} {o:Oper} (hc:classOf P o= .reads):Quiet P G run hint hv i o:=by
 by_cases hh:hint.contains i=true
 ·exact fun s h x h1 hx=>(free_of_hint hh s h x h1 hx).1
 intro s h x h1 hx
 unfold execI at*
 rw[if_neg hh]at hx
 have hm:(hint.isEmpty || hv.isEmpty || mild G hv s o || lateStore hint i o)=true:=by rw[mild_of (.inr hc)];simp
 rw[if_pos hm]at hx
 cases ho:o.op with
 |load _ _ | indexAddr _ _ _ | slice _ _ _ _ _=>
  simp only[opV,ho]at hx
  exact (withH_free hx).1
 |convert src dst a=>
  simp only[opV,ho]at hx
  simp only[classOf,ho]at hc
  split at hc
  ·cases hc
  ·rename_i hk;exact convV_string hk hx
  ·cases hc
 |call c=>
  simp only[classOf,ho]at hc
  simp only[opV,ho]at hx
  split at hc
  ·rename_i hcc
   simp only[hcc]at hx
   exact builtinV_len hx
  all_goals cases hc
 |_=>simp[classOf,ho]at hc
/-! ### two operations,one behind the other -/
theorem sget_putV (s:Slots) (dst:Option Tmp) (v:V) (t:Nat):sget (putV s dst v) t=if dst=some t then v else sget s t:=by
 cases dst with
 |none=>simp[putV]
 |some d=>
  simp only[putV,sget,Option.some.injEq]
def SEq (s s':Slots):Prop:= ∀t,sget s t=sget s' t
theorem SEq.ev {s s':Slots} (e:SEq s s') (x:Operand):ev G s x=ev G s' x:=by
 cases x <;> first | rfl | exact e _
theorem SEq.put {s s':Slots} (e:SEq s s') (dst:Option Tmp) (v:V):SEq (putV s dst v) (putV s' dst v):=fun t=>by
 rw[sget_putV,sget_putV,e t]
theorem ev_put {ops:Array Oper} {o:Oper} {dst:Option Tmp} (hd: ∀d,dst=some d→d∉o.looksAt ops) (s:Slots) (v:V): ∀x∈o.op.operands,ev G (putV s dst v) x=ev G s x:=by
 intro x hx
 cases x with
 |tmp t=>
  show sget _ t=sget _ t
  rw[sget_putV,if_neg]
  intro e
  exact hd t e (List.mem_append_left _ (List.mem_filterMap.2 ⟨.tmp t,by simpa using hx,rfl⟩))
 |_=>rfl
theorem wantedV_congr {all:List Oper} {s s':Slots} (e:SEq s s') (g:Option (Nat × Bool)):wantedV all s g=wantedV all s' g:=by
 unfold wantedV
 cases g with
 |none=>rfl
 |some p=>simp only[e _]
theorem wantedV_put {all:List Oper} {o:Oper} {dst:Option Tmp} (hd: ∀d,dst=some d→d∉o.looksAt all.toArray) (s:Slots) (v:V):
 wantedV all (putV s dst v) o.guard=wantedV all s o.guard:=by
 unfold wantedV
 cases hg:o.guard with
 |none=>rfl
 |some p=>
  obtain⟨j,want⟩:=p
  simp only
  cases ht:(all[j]?).bind (·.dst) with
  |none=>rfl
  |some d=>
   simp only
   rw[sget_putV,if_neg]
   intro e
   exact hd d e (by simp only[Oper.looksAt,hg,List.getElem?_toArray,ht];simp)
theorem stepI_congr {all:List Oper} {hint:List Nat} {hv:List Obj} {i:Nat} {s s':Slots} {h:List Obj} (e:SEq s s') {s1:Slots} {h1:List Obj} (hr:stepI P G run all hint hv i s h=some (s1,h1)):
 ∃s1',stepI P G run all hint hv i s' h=some (s1',h1)∧SEq s1 s1':=by
 unfold stepI at*
 cases hi:all[i]? with
 |none=>rw[hi]at hr;simp only[Option.some.injEq,Prod.mk.injEq]at hr;obtain⟨rfl,rfl⟩:=hr;exact⟨s',rfl,e⟩
 |some o=>
  simp only[hi]at hr ⊢
  rw[← wantedV_congr e]
  cases hw:wantedV all s o.guard with
  |none=>rw[hw]at hr;cases hr
  |some b=>
   rw[hw]at hr
   cases b with
   |false=>
    simp only[obind,Bool.false_eq_true,if_false,Option.some.injEq,Prod.mk.injEq]at hr ⊢
    obtain⟨rfl,rfl⟩:=hr
    exact⟨_,⟨rfl,rfl⟩,e.put _ _⟩
   |true=>
    simp only[obind,if_true]at hr ⊢
    rw[execI_congr o h (fun x _=>e.ev x)]at hr
    cases hx:execI P G run hint hv i s' h o with
    |none=>rw[hx]at hr;cases hr
    |some p=>
     rw[hx]at hr
     simp only[Option.some.injEq,Prod.mk.injEq]at hr ⊢
     obtain⟨rfl,rfl⟩:=hr
     exact⟨_,⟨rfl,rfl⟩,e.put _ _⟩
theorem runL_congr {all:List Oper} {hint:List Nat} {hv:List Obj}: ∀ (l:List Nat) {s s':Slots} {h:List Obj} (_:SEq s s') {s1:Slots} {h1:List Obj},runL P G run all hint hv l s h=some (s1,h1)→
 ∃s1',runL P G run all hint hv l s' h=some (s1',h1)∧SEq s1 s1'
 |[],s,s',h,e,s1,h1,hr=>by simp only[runL,Option.some.injEq,Prod.mk.injEq]at hr;obtain⟨rfl,rfl⟩:=hr;exact⟨s',rfl,e⟩
 |i::l,s,s',h,e,s1,h1,hr=>by
  simp only[runL]at hr ⊢
  cases hx:stepI P G run all hint hv i s h with
  |none=>rw[hx]at hr;cases hr
  |some p=>
   obtain⟨s2,h2⟩:=p
   rw[hx]at hr
   obtain⟨s2',hx',e'⟩:=stepI_congr e hx
   rw[hx']
   exact runL_congr l e' hr
theorem execI_put {ops:Array Oper} {hint:List Nat} {hv:List Obj} {i:Nat} {o:Oper} {dst:Option Tmp} (hd: ∀d,dst=some d→d∉o.looksAt ops) (s:Slots) (v:V) (h:List Obj):
 execI P G run hint hv i (putV s dst v) h o=execI P G run hint hv i s h o:=execI_congr o h (ev_put hd s v)
theorem SEq.swap (s:Slots) {x y:Option Tmp} (v u:V) (hd: ∀d,x=some d→y≠some d):SEq (putV (putV s x v) y u) (putV (putV s y u) x v):=fun t=>by
 simp only[sget_putV]
 by_cases h1:y=some t <;> by_cases h2:x=some t <;> simp only[h1,h2,if_true,if_false]
 exact absurd h1 (hd t h2)
noncomputable def coreI (P:Program) (G:Nat→Option (List D)) (run:Run) (all:List Oper) (hint:List Nat) (hv:List Obj) (i:Nat) (s:Slots) (h:List Obj) (o:Oper):Option (V × List Obj):=
 obind (wantedV all s o.guard) fun w=>if w then execI P G run hint hv i s h o else some (.tup [],h)
theorem stepI_core {all:List Oper} {hint:List Nat} {hv:List Obj} {i:Nat} {o:Oper} (hi:all[i]? =some o) (s:Slots) (h:List Obj):
 stepI P G run all hint hv i s h=obind (coreI P G run all hint hv i s h o) fun p=>some (putV s o.dst p.1,p.2):=by
 unfold stepI coreI
 simp only[hi]
 cases wantedV all s o.guard with
 |none=>rfl
 |some b=>cases b <;> rfl
theorem coreI_put {all:List Oper} {hint:List Nat} {hv:List Obj} {i:Nat} {o:Oper} {dst:Option Tmp} (hd: ∀d,dst=some d→d∉o.looksAt all.toArray) (s:Slots) (v:V) (h:List Obj):
 coreI P G run all hint hv i (putV s dst v) h o=coreI P G run all hint hv i s h o:=by
 unfold coreI
 rw[wantedV_put hd,execI_put hd]
theorem Free.core {all:List Oper} {hint:List Nat} {hv:List Obj} {i:Nat} {o:Oper} (hf:Free P G run hint hv i o) {s:Slots} {h h1:List Obj} {x:V} (hx:coreI P G run all hint hv i s h o=some (x,h1)):
 h1=h∧ ∀h',coreI P G run all hint hv i s h' o=some (x,h'):=by
 unfold coreI at*
 cases hw:wantedV all s o.guard with
 |none=>rw[hw]at hx;cases hx
 |some b=>
  rw[hw]at hx
  cases b with
  |false=>
   simp only[obind,Bool.false_eq_true,if_false,Option.some.injEq,Prod.mk.injEq]at hx ⊢
   exact⟨hx.2.symm,fun _=>⟨hx.1,trivial⟩⟩
  |true=>exact hf s h x h1 hx
theorem Quiet.core {all:List Oper} {hint:List Nat} {hv:List Obj} {i:Nat} {o:Oper} (hf:Quiet P G run hint hv i o) {s:Slots} {h h1:List Obj} {x:V} (hx:coreI P G run all hint hv i s h o=some (x,h1)):h1=h:=by
 unfold coreI at*
 cases hw:wantedV all s o.guard with
 |none=>rw[hw]at hx;cases hx
 |some b=>
  rw[hw]at hx
  cases b with
  |false=>
   simp only[obind,Bool.false_eq_true,if_false,Option.some.injEq,Prod.mk.injEq]at hx
   exact hx.2.symm
  |true=>exact hf s h x h1 hx
def sameC:Obj→Obj→Prop
 |.box cs,.box cs'=>cs=cs'
 |.arr sz xs _,.arr sz' xs' _=>sz=sz'∧xs=xs'
 |.siter a b,.siter a' b'=>a=a'∧b=b'
 |.miter a,.miter a'=>a=a'
 |.map a b c,.map a' b' c'=>a=a'∧b=b'∧c=c'
 |_,_=>False
theorem sameC.refl (o:Obj):sameC o o:=by cases o <;> simp[sameC]
theorem sameC.trans {a b c:Obj} (h:sameC a b) (g:sameC b c):sameC a c:=by
 cases a <;> cases b <;> simp only[sameC]at h <;> cases c <;> simp only[sameC]at g ⊢
 ·exact h.trans g
 ·exact⟨h.1.trans g.1,h.2.trans g.2⟩
 ·exact⟨h.1.trans g.1,h.2.trans g.2⟩
 ·exact h.trans g
 ·exact⟨h.1.trans g.1,h.2.1.trans g.2.1,h.2.2.trans g.2.2⟩
def Grows (h g:List Obj):Prop:= ∀ (id:Nat) (o:Obj),h[id]? =some o→ ∃o',g[id]? =some o'∧sameC o o'
theorem Grows.refl (h:List Obj):Grows h h:=fun _ o e=>⟨o,e,sameC.refl o⟩
theorem Grows.trans {a b c:List Obj} (h:Grows a b) (g:Grows b c):Grows a c:=fun id o e=>by
 obtain⟨o1,e1,h1⟩:=h id o e
 obtain⟨o2,e2,h2⟩:=g id o1 e1
 exact⟨o2,e2,h1.trans h2⟩
theorem Grows.append (h l:List Obj):Grows h (h++l):=fun id o e=>⟨o,by rw[List.getElem?_append_left (lt_of_getElem? e)];exact e,sameC.refl o⟩
theorem Grows.setWm {h:List Obj} {i sz:Nat} {xs:List D} {wm:Nat} (e:h[i]? =some (.arr sz xs wm)) (n:Nat):Grows h (h.set i (.arr sz xs n)):=fun id o eo=>by
 by_cases hi:i=id
 ·subst hi
  rw[e]at eo
  cases eo
  exact⟨_,by rw[List.getElem?_set_self (lt_of_getElem? e)],by simp[sameC]⟩
 ·exact⟨o,by rw[List.getElem?_set_ne hi];exact eo,sameC.refl o⟩
theorem pure1_grows {A:V} {x:D} {h g:List Obj} (hp:pure1 h A=some (x,g)):Grows h g:=by
 cases A with
 |arr id n=>
  simp only[pure1]at hp
  split at hp
  ·rename_i ho
   split at hp
   ·simp only[Option.some.injEq,Prod.mk.injEq]at hp
    obtain⟨_,rfl⟩:=hp
    exact Grows.setWm ho _
   ·cases hp
  ·cases hp
 |sl id tot off len=>
  simp only[pure1]at hp
  split at hp
  ·rename_i ho
   split at hp
   ·simp only[Option.some.injEq,Prod.mk.injEq]at hp
    obtain⟨_,rfl⟩:=hp
    exact Grows.setWm ho _
   ·cases hp
  ·cases hp
 |d x=>simp only[pure1,Option.some.injEq,Prod.mk.injEq]at hp;obtain⟨_,rfl⟩:=hp;exact Grows.refl _
 |emp=>simp only[pure1,Option.some.injEq,Prod.mk.injEq]at hp;obtain⟨_,rfl⟩:=hp;exact Grows.refl _
 |nilS=>simp only[pure1,Option.some.injEq,Prod.mk.injEq]at hp;obtain⟨_,rfl⟩:=hp;exact Grows.refl _
 |_=>simp[pure1]at hp
theorem pureList_grows: ∀ {cs:List V} {xs:List D} {h g:List Obj},pureList h cs=some (xs,g)→Grows h g
 |[],xs,h,g,hp=>by simp only[pureList,Option.some.injEq,Prod.mk.injEq]at hp;obtain⟨_,rfl⟩:=hp;exact Grows.refl _
 |c::cs,xs,h,g,hp=>by
  simp only[pureList]at hp
  split at hp
  ·rename_i h1
   split at hp
   ·rename_i h2
    simp only[Option.some.injEq,Prod.mk.injEq]at hp
    obtain⟨_,rfl⟩:=hp
    exact (pure1_grows h1).trans (pureList_grows h2)
   ·cases hp
  ·cases hp
theorem pureV_grows {A:V} {x:D} {h g:List Obj} (hp:pureV h A=some (x,g)):Grows h g:=by
 unfold pureV at hp
 split at hp
 ·simp only[Option.map_eq_some_iff,Prod.exists,Prod.mk.injEq]at hp
  obtain⟨xs,h1,hl,_,rfl⟩:=hp
  exact pureList_grows hl
 ·exact pure1_grows hp
theorem pureVs_grows: ∀ {cs:List V} {xs:List D} {h g:List Obj},pureVs h cs=some (xs,g)→Grows h g
 |[],xs,h,g,hp=>by simp only[pureVs,Option.some.injEq,Prod.mk.injEq]at hp;obtain⟨_,rfl⟩:=hp;exact Grows.refl _
 |c::cs,xs,h,g,hp=>by
  simp only[pureVs]at hp
  split at hp
  ·rename_i h1
   split at hp
   ·rename_i h2
    simp only[Option.some.injEq,Prod.mk.injEq]at hp
    obtain⟨_,rfl⟩:=hp
    exact (pureV_grows h1).trans (pureVs_grows h2)
   ·cases hp
  ·cases hp
theorem loadV_grows {h g:List Obj} (hg:Grows h g) {t:TypeId} {A x:V} (hx:loadV P h t A=some x):loadV P g t A=some x:=by
 cases A with
 |ptr id off=>
  simp only[loadV]at hx ⊢
  cases e:h[id]? with
  |none=>rw[e]at hx;cases hx
  |some o=>
   obtain⟨o',e',hs⟩:=hg id o e
   rw[e]at hx
   rw[e']
   cases o <;> cases o' <;> simp only[sameC]at hs <;> simp only at hx ⊢
   ·subst hs;exact hx
   all_goals cases hx
 |eptr id n i off=>
  simp only[loadV]at hx ⊢
  cases e:h[id]? with
  |none=>rw[e]at hx;cases hx
  |some o=>
   obtain⟨o',e',hs⟩:=hg id o e
   rw[e]at hx
   rw[e']
   cases o <;> cases o' <;> simp only[sameC]at hs <;> simp only at hx ⊢
   ·cases hx
   ·obtain⟨rfl,rfl⟩:=hs;exact hx
   all_goals cases hx
 |_=>exact hx
def Steady (P:Program) (G:Nat→Option (List D)) (run:Run) (hint:List Nat) (hv:List Obj) (i:Nat) (o:Oper):Prop:=
 ∀ (s:Slots) (h:List Obj) (x:V) (h1:List Obj),execI P G run hint hv i s h o=some (x,h1)→h1=h∧ ∀g,Grows h g→execI P G run hint hv i s g o=some (x,g)
def Makes (P:Program) (G:Nat→Option (List D)) (run:Run) (hint:List Nat) (hv:List Obj) (i:Nat) (o:Oper):Prop:=
 ∀ (s:Slots) (h:List Obj) (x:V) (g:List Obj),execI P G run hint hv i s h o=some (x,g)→Grows h g
theorem load_steady {hint:List Nat} {hv:List Obj} {i:Nat} {o:Oper} (hc:isLoadO o=true):Steady P G run hint hv i o:=by
 by_cases hh:hint.contains i=true
 ·intro s h x h1 hx
  obtain⟨rfl,k⟩:=free_of_hint hh s h x h1 hx
  exact⟨rfl,fun g _=>k g⟩
 intro s h x h1 hx
 unfold isLoadO at hc
 cases ho:o.op with
 |load t a=>
  have hm:mild G hv s o=true:=by simp[mild,ho]
  unfold execI at*
  rw[if_neg hh,hm]at hx
  simp only[Bool.or_true,Bool.true_or,if_true]at hx
  simp only[if_neg hh,hm,Bool.or_true,Bool.true_or,if_true]
  simp only[opV,ho]at hx ⊢
  obtain⟨rfl,hy⟩:=withH_free hx
  exact⟨rfl,fun g hg=>by rw[loadV_grows hg hy];rfl⟩
 |_=>rw[ho]at hc;cases hc
theorem opV_makes {s:Slots} {h g:List Obj} {o:Oper} {x:V} (hc:makesO o=true) (hx:opV P G run s h o=some (x,g)):Grows h g:=by
 unfold makesO at hc
 cases ho:o.op with
 |alloc t=>
  simp only[opV,ho,allocV]at hx
  split at hx
  ·split at hx
   ·simp only[Option.some.injEq,Prod.mk.injEq]at hx
    obtain⟨_,rfl⟩:=hx
    exact Grows.append _ _
   ·cases hx
  ·cases hx
 |box t y=>
  simp only[opV,ho]at hx
  split at hx
  ·simp only[Option.some.injEq,Prod.mk.injEq]at hx
   obtain⟨_,rfl⟩:=hx
   exact Grows.append _ _
  ·cases hx
 |buildSlice t len parts=>
  simp only[opV,ho,buildSliceV]at hx
  split at hx
  ·split at hx
   ·split at hx
    ·split at hx
     ·rename_i hp
      split at hx
      ·simp only[Option.some.injEq,Prod.mk.injEq]at hx
       obtain⟨_,rfl⟩:=hx
       exact (pureVs_grows hp).trans (Grows.append _ _)
      ·cases hx
     ·cases hx
    ·cases hx
   ·cases hx
  ·cases hx
 |_=>rw[ho]at hc;cases hc
theorem makes_of {hint:List Nat} {hv:List Obj} {i:Nat} {o:Oper} (hc:makesO o=true):Makes P G run hint hv i o:=by
 intro s h x g hx
 by_cases hh:hint.contains i=true
 ·obtain⟨rfl,_⟩:=free_of_hint hh s h x g hx
  exact Grows.refl _
 unfold execI at hx
 rw[if_neg hh]at hx
 split at hx
 ·exact opV_makes hc hx
 ·exact opV_makes hc (seenG_some hx).1
theorem Steady.core {all:List Oper} {hint:List Nat} {hv:List Obj} {i:Nat} {o:Oper} (hf:Steady P G run hint hv i o) {s:Slots} {h h1:List Obj} {x:V} (hx:coreI P G run all hint hv i s h o=some (x,h1)):
 h1=h∧ ∀g,Grows h g→coreI P G run all hint hv i s g o=some (x,g):=by
 unfold coreI at*
 cases hw:wantedV all s o.guard with
 |none=>rw[hw]at hx;cases hx
 |some b=>
  rw[hw]at hx
  cases b with
  |false=>
   simp only[obind,Bool.false_eq_true,if_false,Option.some.injEq,Prod.mk.injEq]at hx ⊢
   exact⟨hx.2.symm,fun _ _=>⟨hx.1,trivial⟩⟩
  |true=>exact hf s h x h1 hx
theorem Makes.core {all:List Oper} {hint:List Nat} {hv:List Obj} {i:Nat} {o:Oper} (hf:Makes P G run hint hv i o) {s:Slots} {h h1:List Obj} {x:V} (hx:coreI P G run all hint hv i s h o=some (x,h1)):Grows h h1:=by
 unfold coreI at*
 cases hw:wantedV all s o.guard with
 |none=>rw[hw]at hx;cases hx
 |some b=>
  rw[hw]at hx
  cases b with
  |false=>
   simp only[obind,Bool.false_eq_true,if_false,Option.some.injEq,Prod.mk.injEq]at hx
   rw[hx.2];exact Grows.refl _
  |true=>exact hf s h x h1 hx
structure Indep (P:Program) (G:Nat→Option (List D)) (run:Run) (all:List Oper) (hint:List Nat) (hv:List Obj) (i j:Nat):Prop where
 two: ∃x y,all[i]? =some x∧all[j]? =some y∧x.apart all.toArray y=true∧
  (Free P G run hint hv i x∨Free P G run hint hv j y∨(Quiet P G run hint hv i x∧Quiet P G run hint hv j y)∨(Steady P G run hint hv i x∧Makes P G run hint hv j y))
theorem fits_indep {all:List Oper} {hint:List Nat} {hv:List Obj} {i j:Nat} (hf:fitsPair P hint all i j=true):Indep P G run all hint hv i j:=by
 unfold fitsPair at hf
 split at hf
 ·rename_i x y hx hy
  simp only[Bool.and_eq_true]at hf
  refine⟨x,y,hx,hy,hf.1.1, ?_⟩
  have h2:=hf.1.2
  split at h2
  ·rename_i h;exact .inl (still_free h)
  ·rename_i h _;exact .inr (.inl (still_free h))
  ·rename_i c1 c2;exact .inr (.inr (.inl ⟨reads_quiet c1,reads_quiet c2⟩))
  ·rw[Bool.or_eq_true,Bool.or_eq_true,Bool.and_eq_true]at h2
   rcases h2 with (h2 | h2) | ⟨h2,h3⟩
   ·exact .inl (free_of_hint h2)
   ·exact .inr (.inl (free_of_hint h2))
   ·exact .inr (.inr (.inr ⟨load_steady h2,makes_of h3⟩))
  ·rw[Bool.or_eq_true]at h2
   rcases h2 with h2 | h2
   ·exact .inr (.inl (free_of_hint h2))
   ·exact .inl (free_of_hint h2)
  ·rw[Bool.or_eq_true]at h2
   rcases h2 with h2 | h2
   ·exact .inl (free_of_hint h2)
   ·exact .inr (.inl (free_of_hint h2))
 ·cases hf
theorem swap {all:List Oper} {hint:List Nat} {hv:List Obj} {i j:Nat} (hf:Indep P G run all hint hv i j) {s s1 s2:Slots} {h h1 h2:List Obj}
 (hi:stepI P G run all hint hv i s h=some (s1,h1)) (hj:stepI P G run all hint hv j s1 h1=some (s2,h2)):
 ∃s1' h1' s2',stepI P G run all hint hv j s h=some (s1',h1')∧stepI P G run all hint hv i s1' h1'=some (s2',h2)∧SEq s2 s2':=by
 obtain⟨x,y,hx,hy,ha,hc⟩:=hf.two
 obtain⟨a1,a2,a3⟩:=Oper.apart_spec ha
 rw[stepI_core hx]at hi
 rw[stepI_core hy]at hj
 cases cx:coreI P G run all hint hv i s h x with
 |none=>rw[cx]at hi;cases hi
 |some p=>
  obtain⟨u,g1⟩:=p
  rw[cx]at hi
  simp only[obind,Option.some.injEq,Prod.mk.injEq]at hi
  obtain⟨rfl,rfl⟩:=hi
  rw[coreI_put a1]at hj
  cases cy:coreI P G run all hint hv j s g1 y with
  |none=>rw[cy]at hj;cases hj
  |some q=>
   obtain⟨v,g2⟩:=q
   rw[cy]at hj
   simp only[obind,Option.some.injEq,Prod.mk.injEq]at hj
   obtain⟨rfl,rfl⟩:=hj
   have key: ∃g,coreI P G run all hint hv j s h y=some (v,g)∧coreI P G run all hint hv i s g x=some (u,g2):=by
    rcases hc with hc | hc | ⟨hc,hd⟩ | ⟨hc,hd⟩
    ·obtain⟨rfl,hall⟩:=hc.core cx
     exact⟨g2,cy,hall g2⟩
    ·obtain⟨rfl,hall⟩:=hc.core cy
     exact⟨h,hall h,cx⟩
    ·have:=hc.core cx
     subst this
     have:=hd.core cy
     subst this
     exact⟨g2,cy,cx⟩
    ·obtain⟨rfl,hall⟩:=hc.core cx
     exact⟨g2,cy,hall g2 (hd.core cy)⟩
   obtain⟨g,k1,k2⟩:=key
   refine⟨putV s y.dst v,g,putV (putV s y.dst v) x.dst u, ?_, ?_,SEq.swap s u v a2⟩
   ·rw[stepI_core hy,k1];rfl
   ·rw[stepI_core hx,coreI_put a3,k2];rfl
theorem move_front {all:List Oper} {hint:List Nat} {hv:List Obj} {j:Nat}: ∀ (l1 l2:List Nat),(∀i∈l1,Indep P G run all hint hv i j)→ ∀ {s s2:Slots} {h h2:List Obj},
 runL P G run all hint hv (l1++j::l2) s h=some (s2,h2)→ ∃s2',runL P G run all hint hv (j::(l1++l2)) s h=some (s2',h2)∧SEq s2 s2'
 |[],l2,_,s,s2,h,h2,hr=>⟨s2,hr,fun _=>rfl⟩
 |i::l1,l2,hf,s,s2,h,h2,hr=>by
  simp only[List.cons_append,runL]at hr
  cases hi:stepI P G run all hint hv i s h with
  |none=>rw[hi]at hr;cases hr
  |some p=>
   obtain⟨sa,ha⟩:=p
   rw[hi]at hr
   obtain⟨sb,hb,e1⟩:=move_front l1 l2 (fun k hk=>hf k (List.mem_cons_of_mem _ hk)) hr
   simp only[runL]at hb
   cases hj:stepI P G run all hint hv j sa ha with
   |none=>rw[hj]at hb;cases hb
   |some q=>
    obtain⟨sc,hc⟩:=q
    rw[hj]at hb
    obtain⟨t1,g1,t2,k1,k2,e2⟩:=swap (hf i (List.mem_cons_self ..)) hi hj
    obtain⟨sd,hd,e3⟩:=runL_congr _ e2 hb
    refine⟨sd, ?_,fun t=>(e1 t).trans (e3 t)⟩
    simp only[List.cons_append,runL,k1,obind,k2]
    exact hd
/-! ### who must wait for whom -/
theorem ancestors_spec: ∀ (ops:List Oper) (acc:List (List Nat)), ∃l,ancestors ops acc=acc++l∧l.length=ops.length∧
 ∀ (j:Nat) (o:Oper),ops[j]? =some o→l.getD j []=o.after.toList.foldl (fun s e=>if Region.binds .any e then addIds (addIds s [e.on]) ((acc++l.take j).getD e.on []) else s) []
 |[],acc=>⟨[],by simp[ancestors],rfl,fun j o hj=>by simp at hj⟩
 |o::r,acc=>by
  obtain⟨l,h1,h2,h3⟩:=ancestors_spec r (acc++[o.after.toList.foldl (fun s e=>if Region.binds .any e then addIds (addIds s [e.on]) (acc.getD e.on []) else s) []])
  refine⟨_::l,by rw[ancestors,h1,List.append_assoc];rfl,by simp[h2],fun j o' hj=> ?_⟩
  cases j with
  |zero=>simp only[List.getElem?_cons_zero,Option.some.injEq]at hj;subst hj;simp
  |succ j=>
   simp only[List.getElem?_cons_succ]at hj
   have:=h3 j o' hj
   simp only[List.getD_cons_succ,List.take_succ_cons]
   rw[this,List.append_assoc]
   rfl
theorem mem_addIds {i:Nat}: ∀ {l acc:List Nat},i∈addIds acc l↔i∈acc∨i∈l
 |[],acc=>by simp[addIds]
 |x::l,acc=>by
  simp only[addIds]
  split
  ·rename_i hc
   rw[mem_addIds]
   simp only[List.mem_cons]
   have:x∈acc:=by simpa using hc
   constructor
   ·rintro (h | h);exact .inl h;exact .inr (.inr h)
   ·rintro (h | rfl | h);exact .inl h;exact .inl this;exact .inr h
  ·rw[mem_addIds]
   simp only[List.mem_append,List.mem_cons,List.not_mem_nil,or_false,or_assoc]
theorem mem_fold {after:List Edge} {f:Nat→List Nat} {i:Nat}: ∀ (s:List Nat),i∈after.foldl (fun s e=>if Region.binds .any e then addIds (addIds s [e.on]) (f e.on) else s) s→
 i∈s∨ ∃e∈after,Region.binds .any e=true∧(i=e.on∨i∈f e.on):=by
 induction after with
 |nil=>intro s hi;exact .inl hi
 |cons e after ih=>
  intro s hi
  simp only[List.foldl_cons]at hi
  rcases ih _ hi with h | ⟨e',he',h⟩
  ·by_cases hb:Region.binds .any e=true
   ·rw[if_pos hb]at h
    rcases mem_addIds.1 h with h | h
    ·rcases mem_addIds.1 h with h | h
     ·exact .inl h
     ·exact .inr ⟨e,List.mem_cons_self ..,hb,.inl (by simpa using h)⟩
    ·exact .inr ⟨e,List.mem_cons_self ..,hb,.inr h⟩
   ·rw[if_neg hb]at h;exact .inl h
  ·exact .inr ⟨e',List.mem_cons_of_mem _ he',h⟩
theorem fold_mem {after:List Edge} {f:Nat→List Nat} {e:Edge} (he:e∈after) (hb:Region.binds .any e=true): ∀ (s:List Nat),e.on∈after.foldl (fun s e=>if Region.binds .any e then addIds (addIds s [e.on]) (f e.on) else s) s:=by
 have keep: ∀ (after:List Edge) (s:List Nat),e.on∈s→e.on∈after.foldl (fun s e=>if Region.binds .any e then addIds (addIds s [e.on]) (f e.on) else s) s:=by
  intro after
  induction after with
  |nil=>intro s h;exact h
  |cons e' after ih=>
   intro s h
   simp only[List.foldl_cons]
   apply ih
   split
   ·exact mem_addIds.2 (.inl (mem_addIds.2 (.inl h)))
   ·exact h
 induction after with
 |nil=>cases he
 |cons e' after ih=>
  intro s
  simp only[List.foldl_cons]
  rcases List.mem_cons.1 he with rfl | h
  ·apply keep
   rw[if_pos hb]
   exact mem_addIds.2 (.inl (mem_addIds.2 (.inr (List.mem_singleton.2 rfl))))
  ·exact ih h _
theorem anc_spec {ops:List Oper} {i j:Nat} {o:Oper} (hj:ops[j]? =some o) (hi:i∈(ancestors ops []).getD j []):
 ∃e∈o.after,Region.binds .any e=true∧(i=e.on∨(e.on<j∧i∈(ancestors ops []).getD e.on [])):=by
 obtain⟨l,h1,h2,h3⟩:=ancestors_spec ops []
 rw[List.nil_append]at h1
 rw[h1]at hi ⊢
 rw[h3 j o hj]at hi
 rcases mem_fold (f:=fun n=>([]++List.take j l).getD n []) _ hi with h | ⟨e,he,hb,h⟩
 ·cases h
 ·refine⟨e,by simpa using he,hb,h.imp id fun h=> ?_⟩
  rw[List.nil_append]at h
  by_cases hlt:e.on<j
  ·refine⟨hlt, ?_⟩
   simp only[List.getD_eq_getElem?_getD,List.getElem?_take,hlt,if_true]at h ⊢
   exact h
  ·simp[List.getD_eq_getElem?_getD,List.getElem?_take,hlt]at h
theorem edge_anc {ops:List Oper} {j:Nat} {o:Oper} (hj:ops[j]? =some o) {e:Edge} (he:e∈o.after) (hb:Region.binds .any e=true):e.on∈(ancestors ops []).getD j []:=by
 obtain⟨l,h1,h2,h3⟩:=ancestors_spec ops []
 rw[List.nil_append]at h1
 rw[h1,h3 j o hj]
 exact fold_mem (f:=fun n=>([]++List.take j l).getD n []) (Array.mem_toList_iff.2 he) hb _
theorem drawOk_edge {hint:List Nat} {ops:List Oper} (hd:drawOk P hint ops=true) {j:Nat} {o:Oper} (hj:ops[j]? =some o) {e:Edge} (he:e∈o.after) (hb:Region.binds .any e=true):e.on<j:=by
 unfold drawOk at hd
 simp only[List.all_eq_true,List.mem_range,Bool.and_eq_true,decide_eq_true_eq]at hd
 exact (hd.2 j (List.getElem?_eq_some_iff.1 hj).1).1 _ (edge_anc hj he hb)
theorem drawOk_pair {hint:List Nat} {ops:List Oper} (hd:drawOk P hint ops=true) {i j:Nat} (hj:j<ops.length) (hij:i<j):
 i∈(ancestors ops []).getD j []∨fitsPair P hint ops i j=true:=by
 unfold drawOk at hd
 simp only[List.all_eq_true,List.mem_range,Bool.and_eq_true,Bool.or_eq_true,decide_eq_true_eq]at hd
 exact ((hd.2 j hj).2 i hij).imp (by simp) id
theorem drawOk_size {hint:List Nat} {ops:List Oper} (hd:drawOk P hint ops=true):ops.length≤1000:=by
 unfold drawOk at hd
 simp only[Bool.and_eq_true,decide_eq_true_eq]at hd
 exact hd.1
theorem anc_listed {ops:List Oper} {listed:Array Bool} (hcl: ∀ (k:Nat) (o:Oper),ops[k]? =some o→listed.getD k true=true→ ∀e∈o.after,Region.binds .any e=true→listed.getD e.on false=true)
 (hsz:listed.size=ops.length): ∀ (j:Nat) (o:Oper),ops[j]? =some o→(∀e∈o.after,Region.binds .any e=true→listed.getD e.on false=true)→ ∀i∈(ancestors ops []).getD j [],listed.getD i false=true:=by
 intro j
 induction j using Nat.strongRecOn with
 |_ j ih=>
  intro o hj hall i hi
  obtain⟨e,he,hb,h⟩:=anc_spec hj hi
  rcases h with rfl | ⟨hlt,h⟩
  ·exact hall e he hb
  ·have hjl:j<ops.length:=(List.getElem?_eq_some_iff.1 hj).1
   have hel:e.on<ops.length:=by omega
   have ho:ops[e.on]? =some ops[e.on]:=List.getElem?_eq_getElem hel
   refine ih e.on hlt _ ho (hcl e.on _ ho ?_) i h
   have:=hall e he hb
   simp only[Array.getD_eq_getD_getElem?]at this ⊢
   rw[Array.getElem?_eq_getElem (by omega)]at this ⊢
   simpa using this
end
section
variable {X:Nat→Nat→Prop} {P:Program} {G:Nat→Option (List D)}
theorem Stp.draw {ρ:Places} {h:List Obj} {w:World} (H:HRel X ρ h w) (n:Nat):Stp X ρ h w ρ h { w with drawn:=n }:=by
 have f:Fr X ρ h w ρ h { w with drawn:=n }:=⟨rfl,rfl,rfl,Nat.le_refl _,fun _ _ hb=>⟨rfl,hb⟩,fun _ _ _ hm hc=>⟨hc,hm⟩⟩
 refine⟨⟨H.len,fun id o ho=> ?_,H.xlt,H.xown,H.inj⟩,f,Evo.refl _ _ _⟩
 obtain⟨r,hr,hrel⟩:=H.obj id o ho
 exact⟨r,hr,hrel.kept f (Evo.refl _ _ _) fun _ _ _=>rfl⟩
theorem SRel.seq {ρ:Places} {h:List Obj} {w:World} {tmps:Array Value} {s s':Slots} (hs:SRel X ρ h w tmps s) (e:SEq s s'):SRel X ρ h w tmps s':=fun t=>e t ▸ hs t
theorem wpAny_runL {rd:Option Nat} {n:Nat} {run:Run} {nt:Nat} {all:List Oper} {hint:List Nat} {hv:List Obj} {Q:Exit→Act→World→Prop} (hrun:RunOk P G run) (hhas:RunHas P run) (hdst: ∀o∈all, ∀d,o.dst=some d→d<nt)
 (hd:drawOk P hint all=true) (hvl:hintLoads all hint=false→hv=[]) {h':List Obj} {k0 bid:Nat} (hkb:k0≤bid) (hbid: ∀i,hint.contains i=true→isAllocAt all i=true→bid+1=hv.length)
 (huni: ∀i j,hint.contains i=true→isAllocAt all i=true→hint.contains j=true→isAllocAt all j=true→i=j):
 ∀ (s':Slots) (rem:List Nat) (listed:Array Bool) (ρ:Places) (s:Slots) (h:List Obj) (a:Act) (w:World),rem.Pairwise (·< ·)→(∀j,j∈rem↔j<all.length∧listed.getD j true=false)→listed.size=all.length→
  (∀ (k:Nat) (o:Oper),all[k]? =some o→listed.getD k true=true→ ∀e∈o.after,Region.binds .any e=true→listed.getD e.on false=true)→
  runL P G run all hint hv rem s h=some (s',h')→St X G nt ρ h w a s→((∃k,k∈rem∧hint.contains k=true)→Seen hv h)→k0≤h.length→((∃k,k∈rem∧hint.contains k=true∧isAllocAt all k=true)→Unb ρ h bid)→
  (∀ρ' a' w',Stb k0 X ρ h w ρ' h' w'→St X G nt ρ' h' w' a' s'→a'.defers=a.defers→Q .normal a' w')→ ∀fuel,rem.length=fuel→wpAnyIn (Fw rd) n P .any all.toArray Q fuel listed a w:=by
 intro s' rem listed ρ s h a w hp hm hsz hcl hr S hseen hkl hunb hq fuel
 induction fuel generalizing s' rem listed ρ s h a w with
 |zero=>
  intro hl
  have:rem=[]:=List.length_eq_zero_iff.1 hl
  subst this
  simp only[runL,Option.some.injEq,Prod.mk.injEq]at hr;obtain⟨rfl,rfl⟩:=hr
  refine⟨?_,hq ρ a w ((Stp.refl S.rel).stb hkl) S rfl⟩
  apply List.eq_nil_iff_forall_not_mem.2
  intro j hj
  obtain⟨h0,o,ho,-⟩:=mem_ready.1 hj
  have hjl:j<all.length:=by have:=(Array.getElem?_eq_some_iff.1 ho).1;simpa using this
  have:=(hm j).2 ⟨hjl,h0⟩
  cases this
 |succ fuel ih=>
  intro hl
  constructor
  ·intro hnone
   exfalso
   cases rem with
   |nil=>cases hl
   |cons j r=>
    obtain⟨hjl,hjn⟩:=(hm j).1 (List.mem_cons_self ..)
    have ho:all[j]? =some all[j]:=List.getElem?_eq_getElem hjl
    have:j∈Region.ready .any all.toArray listed:=by
     refine mem_ready.2 ⟨hjn,all[j],by simp[ho],fun e he hb=> ?_⟩
     have hlt:=drawOk_edge hd ho he hb
     by_cases hx:listed.getD e.on true=false
     ·have hmem:=(hm e.on).2 ⟨by omega,hx⟩
      rcases List.mem_cons.1 hmem with h1 | h1
      ·omega
      ·have:=(List.pairwise_cons.1 hp).1 _ h1
       omega
     ·simp only[Array.getD_eq_getD_getElem?]at hx ⊢
      rw[Array.getElem?_eq_getElem (by omega)]at hx ⊢
      simpa using hx
    rw[hnone]at this
    cases this
  ·intro j hj
   obtain⟨h0,o,ho,hall⟩:=mem_ready.1 hj
   have ho':all[j]? =some o:=by simpa using ho
   have hjl:j<all.length:=(List.getElem?_eq_some_iff.1 ho').1
   have hjm:j∈rem:=(hm j).2 ⟨hjl,h0⟩
   obtain⟨l1,l2,rfl⟩:=List.append_of_mem hjm
   have hp':=List.pairwise_append.1 hp
   have hp2:=List.pairwise_cons.1 hp'.2.1
   have hfit: ∀i∈l1,fitsPair P hint all i j=true:=fun i hi=>by
    have hij:i<j:=hp'.2.2 i hi j (List.mem_cons_self ..)
    rcases drawOk_pair hd hjl hij with h1 | h1
    ·exfalso
     have h2:=anc_listed hcl hsz j o ho' hall i h1
     have h3:=((hm i).1 (List.mem_append_left _ hi)).2
     simp only[Array.getD_eq_getD_getElem?]at h2 h3
     rw[Array.getElem?_eq_getElem (by omega)]at h2 h3
     simp only[Option.getD_some]at h2 h3
     rw[h2]at h3
     cases h3
    ·exact h1
   have hind: ∀i∈l1,Indep P G run all hint hv i j:=fun i hi=>fits_indep (hfit i hi)
   obtain⟨s2,hr2,he⟩:=move_front l1 l2 hind hr
   simp only[runL]at hr2
   cases hs:stepI P G run all hint hv j s h with
   |none=>rw[hs]at hr2;cases hr2
   |some p=>
    obtain⟨s1,h1⟩:=p
    rw[hs]at hr2
    refine stepI_sound hrun hhas hdst hs S (fun c=>hseen ⟨j,hjm,c⟩) hkl (fun c1 c2=>⟨hunb ⟨j,hjm,c1,c2⟩,hkb,hbid j c1 c2⟩) fun ρ1 a1 w1 st S1 hd1 hle hun1=> ?_
    have hne: ∀i∈l1++l2,i≠j:=fun i hi e=>by
     subst e
     rcases List.mem_append.1 hi with h | h
     ·exact Nat.lt_irrefl _ (hp'.2.2 i h i (List.mem_cons_self ..))
     ·exact Nat.lt_irrefl _ (hp2.1 i h)
    have hset: ∀i d,(listed.setIfInBounds j true).getD i d=if i=j then true else listed.getD i d:=fun i d=>by
     by_cases e:i=j
     ·subst e
      simp[Array.getD_eq_getD_getElem?,hsz,hjl]
     ·rw[getD_set_ne d (Ne.symm e),if_neg e]
    refine ih s2 (l1++l2) (listed.setIfInBounds j true) ρ1 s1 h1 a1 w1 ?_ ?_ (by simpa using hsz) ?_ hr2 S1 ?_ (Nat.le_trans hkl hle) ?_ ?_ ?_
    ·exact List.pairwise_append.2 ⟨hp'.1,hp2.2,fun x hx y hy=>hp'.2.2 x hx y (List.mem_cons_of_mem _ hy)⟩
    ·intro i
     rw[hset]
     constructor
     ·intro hi
      rw[if_neg (hne i hi)]
      exact (hm i).1 (by
       rcases List.mem_append.1 hi with hi | hi
       ·exact List.mem_append_left _ hi
       ·exact List.mem_append_right _ (List.mem_cons_of_mem _ hi))
     ·rintro ⟨hil,hi⟩
      split at hi
      ·cases hi
      ·rename_i hij
       have:=(hm i).2 ⟨hil,hi⟩
       rcases List.mem_append.1 this with h | h
       ·exact List.mem_append_left _ h
       ·rcases List.mem_cons.1 h with h | h
        ·exact absurd h hij
        ·exact List.mem_append_right _ h
    ·intro k o' hk hkl e hee hb
     apply getD_set_true
     rw[hset]at hkl
     split at hkl
     ·rename_i hkj
      subst hkj
      rw[ho']at hk
      cases hk
      exact hall e hee hb
     ·exact hcl k o' hk hkl e hee hb
    ·rintro ⟨k,hk,hkh⟩
     have hkm:k∈l1++j::l2:=by
      rcases List.mem_append.1 hk with h | h
      ·exact List.mem_append_left _ h
      ·exact List.mem_append_right _ (List.mem_cons_of_mem _ h)
     have hne':hint≠[]:=fun e=>by rw[e]at hkh;simp at hkh
     refine stepI_seen hs hne' (hseen ⟨k,hkm,hkh⟩) ?_
     by_cases hv0:hv=[]
     ·exact .inl hv0
     ·right
      intro o' ho2
      cases hlt:lateStore hint j o' with
      |false=>rfl
      |true=>
       exfalso
       unfold lateStore at hlt
       simp only[Bool.and_eq_true,Bool.or_eq_true,List.all_eq_true,decide_eq_true_eq]at hlt
       have hkj:k<j:=by
        have:=drawOk_size hd
        have:=((hm k).1 hkm).1
        rcases hlt.2 k (by simpa using hkh) with h | h <;> omega
       have hk1:k∈l1:=by
        rcases List.mem_append.1 hk with h | h
        ·exact h
        ·have:=hp2.1 k h;omega
       have hf:=hfit k hk1
       have hhl:hintLoads all hint=true:=by
        cases e:hintLoads all hint with
        |true=>rfl
        |false=>exact absurd (hvl e) hv0
       unfold fitsPair at hf
       rw[ho2]at hf
       cases hx:all[k]? with
       |none=>rw[hx]at hf;simp at hf
       |some xk=>
        rw[hx]at hf
        simp only[hhl,hlt.1,hkh,Bool.and_self,Bool.or_true,Bool.not_true,Bool.and_false,Bool.or_self,Bool.false_eq_true]at hf
    ·rintro ⟨k,hk,c1,c2⟩
     have hkm:k∈l1++j::l2:=by
      rcases List.mem_append.1 hk with h | h
      ·exact List.mem_append_left _ h
      ·exact List.mem_append_right _ (List.mem_cons_of_mem _ h)
     exact hun1 (fun hh=>hne k hk (huni k j c1 c2 hh.1 hh.2)) (hunb ⟨k,hkm,c1,c2⟩)
    ·intro ρ2 a2 w2 st2 S2 hd2
     exact hq ρ2 a2 w2 (st.trans st2) ⟨S2.rel,S2.glob,S2.slots.seq fun t=>(he t).symm,S2.size⟩ (hd2.trans hd1)
    ·simp only[List.length_append,List.length_cons]at hl ⊢;omega
theorem region_sound {rd:Option Nat} {n:Nat} {run:Run} {nt:Nat} {ops:Array Oper} {hint:List Nat} {hv:List Obj} {id:Nat} {draw:Bool} {Q:Exit→Act→World→Prop} (hm:P.follows .mixedOrders=true) (hrun:RunOk P G run) (hhas:RunHas P run)
 (hdst: ∀o∈ops.toList, ∀d,o.dst=some d→d<nt) (hd:draw=true→drawOk P hint ops.toList=true) {ρ:Places} {s s':Slots} {h h':List Obj} {a:Act} {w:World}
 (hr:opsV P G run ops.toList (if draw then hint else []) hv 0 ops.toList s h=some (s',h')) (S:St X G nt ρ h w a s) (hseen:Seen hv h) (hvl:hintLoads ops.toList (if draw then hint else [])=false→hv=[])
 {k0 bid:Nat} (hkb:k0≤bid) (hkl:k0≤h.length) (hunb: ∀i,(if draw then hint else []).contains i=true→isAllocAt ops.toList i=true→Unb ρ h bid∧bid+1=hv.length)
 (huni: ∀i j,(if draw then hint else []).contains i=true→isAllocAt ops.toList i=true→(if draw then hint else []).contains j=true→isAllocAt ops.toList j=true→i=j)
 (hq: ∀ρ' a' w',Stb k0 X ρ h w ρ' h' w'→St X G nt ρ' h' w' a' s'→a'.defers=a.defers→Q .normal a' w'):(Code.region id ops draw).wpIn (Fw rd) n P Q a w:=by
 rw[opsV_runL P G run _ _ _ _ 0 s h (fun j=>by rw[Nat.zero_add])]at hr
 have hops:ops.toList.toArray=ops:=Array.toArray_toList
 cases draw with
 |false=>
  have:=runL_sound (r:=rd) (n:=n) hrun hhas hdst _ ρ s h a w s' h' hr S fun ρ' a' w' st=>hq ρ' a' w' (st.stb hkl)
  rw[hops,← List.range_eq_range',Array.length_toList]at this
  exact wpIn_region this
 |true=>
  refine wpIn_region_any hm ?_
  have hs:=Stp.draw S.rel (w.drawn+1)
  have hrep: ∀j,j<ops.size→(Array.replicate ops.size false).getD j true=false:=fun j hj=>by simp[Array.getD_eq_getD_getElem?,hj]
  have:=wpAny_runL (rd:=rd) (n:=n) hrun hhas hdst (hd rfl) hvl hkb (fun i c1 c2=>(hunb i c1 c2).2) huni s' _ (Array.replicate ops.size false) ρ s h a { w with drawn:=w.drawn+1 } (List.pairwise_lt_range' ..) (fun j=>⟨fun h=>⟨by simpa using h,hrep j (by simpa using h)⟩,fun h=>by simpa using h.1⟩) (by simp) (fun k o hk hl=>by rw[hrep k (by simpa using (List.getElem?_eq_some_iff.1 hk).1)]at hl;cases hl) hr
   ⟨hs.rel,S.glob.mono hs.fr,S.slots.mono hs,S.size⟩ (fun _=>hseen) hkl (fun ⟨i,_,c1,c2⟩=>(hunb i c1 c2).1) (fun ρ' a' w' st=>hq ρ' a' w' ((hs.stb hkl).trans st)) ops.size (by simp)
  rw[hops]at this
  exact this
end
end Go.Am
