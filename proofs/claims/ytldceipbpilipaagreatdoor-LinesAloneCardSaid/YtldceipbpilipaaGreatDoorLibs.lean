/- The contracts of the library. -/
import Derived.Shelf.Strings.Split
import Derived.Shelf.Strings.OnBuilder
import Derived.Shelf.Strconv.Itoa4
import Derived.Shelf.Strconv.AtoiAll
import Derived.Test.YtldceipbpilipaaGreatDoorMachE
set_option linter.all false
namespace Go.Am
open Go.Proofs Go.Shelf Go.RowKit
theorem digF_dec: ∀ (k u:Nat),u<10 ^ (k+1)→digF (k+1) u=Lib.decDigits u
 |0,u,h=>by
  rw[Lib.decDigits]
  unfold digF
  have:u<10:=by simpa using h
  rw[if_pos this,dif_pos this]
 |k+1,u,h=>by
  rw[Lib.decDigits]
  unfold digF
  split
  ·rfl
  ·rw[digF_dec k (u / 10) (by rw[Nat.pow_succ]at h;omega)]
theorem itoaL_eq {n:Int} (h0: -9223372036854775808≤n) (h1:n≤18446744073709551615):Lib.itoa n=itoaL n:=by
 have hp:(10:Nat) ^ 20=100000000000000000000:=by decide
 unfold Lib.itoa itoaL
 split
 ·rw[digF_dec 19 _ (by rw[show 19+1=20 from rfl,hp];omega)]
 ·rw[digF_dec 19 _ (by rw[show 19+1=20 from rfl,hp];omega)]
theorem splitK_cut (c:UInt8): ∀s:List UInt8,Lib.splitK [c] 0 (Lib.count s [c]) s=cutL c s
 |[]=>rfl
 |x::r=>by
  have ih:=splitK_cut c r
  by_cases h:x=c
  ·subst h
   have hi:Lib.index (x::r) [x]=((0:Nat):Int):=by rw[Lib.index];simp[List.isPrefixOf]
   rw[Lib.count_cons_eq,Nat.add_comm]
   simp only[Lib.splitK,cutL,if_true,hi]
   simp[ih]
  ·rw[Lib.count_cons_ne x c r h]
   have hp:([c]:List UInt8).isPrefixOf (x::r)=false:=by simp[List.isPrefixOf,Ne.symm h]
   have hix:Lib.index (x::r) [c]=if Lib.index r [c] == -1 then -1 else Lib.index r [c]+1:=by rw[Lib.index,hp];simp
   simp only[cutL,if_neg h,← ih]
   cases hk:Lib.count r [c] with
   |zero=>simp[Lib.splitK]
   |succ k=>
    have hm:Lib.index r [c]≠ -1:=fun e=>by rw[Lib.count_miss e]at hk;cases hk
    have hge:=Lib.index_ge r [c]
    obtain⟨j,hj⟩: ∃j:Nat,Lib.index r [c]=j:=⟨(Lib.index r [c]).toNat,by omega⟩
    have hb:(Lib.index r [c] == -1)=false:=beq_false_of_ne hm
    have hb2:(Lib.index (x::r) [c] == -1)=false:=by rw[hix,hb];simp;omega
    have e2:(Lib.index (x::r) [c]).toNat=j+1:=by rw[hix,hb,hj];simp
    have e1:(Lib.index r [c]).toNat=j:=by omega
    simp only[Lib.splitK,hb,hb2,e1,e2]
    simp
theorem join_eq (sep:List UInt8): ∀xs:List (List UInt8),Lib.join xs sep=joinL sep xs
 |[]=>rfl
 |[x]=>by simp[Lib.join,List.intercalate,joinL]
 |x::y::r=>by
  have ih:=join_eq sep (y::r)
  unfold Lib.join at ih ⊢
  show _=x++sep++joinL sep (y::r)
  rw[← ih]
  simp[List.intercalate]
section
variable {P:Program} {ρ:Ren} {G:Nat→Option (List D)}
theorem below_out {w w':World} (b:Below w.heap.size w w'):w'.os=w.os∧w'.tape=w.tape∧w'.output=w.output∧w.heap.size≤w'.heap.size∧ ∀k,k<w.heap.size→w'.heap[k]? =w.heap[k]? :=⟨b.os,b.tape,b.output,b.size,b.block⟩
theorem grow_below (w:World) (k:Nat) (os:Array Go.Obj):Below w.heap.size w (Sort.grow (w.drewN k) os):=by
 refine⟨rfl,rfl,rfl,by simp[Sort.grow,World.drewN],fun i hi=> ?_⟩
 rw[Sort.heap_grow_old]
 ·rfl
 ·exact hi
theorem arg1 {M:Nat→Nat→Prop} {w:World} {vs:List Value} {x:D} (hl:vs.length=[x].length) (h: ∀ (j:Nat) (y:D),[x][j]? =some y→ ∃v,vs[j]? =some v∧Rep M w v y): ∃v,vs=[v]∧Rep M w v x:=by
 obtain⟨v,h1,h2⟩:=h 0 x rfl
 match vs,hl,h1 with
 |[u],_,e=>exact⟨v,by simpa using e,h2⟩
theorem arg2 {M:Nat→Nat→Prop} {w:World} {vs:List Value} {x y:D} (hl:vs.length=[x,y].length) (h: ∀ (j:Nat) (z:D),[x,y][j]? =some z→ ∃v,vs[j]? =some v∧Rep M w v z): ∃v u,vs=[v,u]∧Rep M w v x∧Rep M w u y:=by
 obtain⟨v,h1,h2⟩:=h 0 x rfl
 obtain⟨u,h3,h4⟩:=h 1 y rfl
 match vs,hl,h1,h3 with
 |[a,b],_,e1,e2=>exact⟨v,u,by simp at e1 e2;rw[e1,e2],h2,h4⟩
theorem out1 {M:Nat→Nat→Prop} {w':World} {u:Value} {x:D} (h:Rep M w' u x): ∃us:List Value,u=oneVal us∧us.length=[x].length∧ ∀ (j:Nat) (y:D),[x][j]? =some y→ ∃u,us[j]? =some u∧Rep M w' u y:=
 ⟨[u],rfl,rfl,fun j y hj=>by
  match j with
  |0=>simp only[List.getElem?_cons_zero,Option.some.injEq]at hj;subst hj;exact⟨u,rfl,h⟩
  |j+1=>simp at hj⟩
theorem out2 {M:Nat→Nat→Prop} {w':World} {u v:Value} {x y:D} (h:Rep M w' u x) (h2:Rep M w' v y): ∃us:List Value,Value.tuple #[u,v]=oneVal us∧us.length=[x,y].length∧ ∀ (j:Nat) (z:D),[x,y][j]? =some z→ ∃u,us[j]? =some u∧Rep M w' u z:=
 ⟨[u,v],rfl,rfl,fun j z hj=>by
  match j with
  |0=>simp only[List.getElem?_cons_zero,Option.some.injEq]at hj;subst hj;exact⟨u,rfl,h⟩
  |1=>simp only[List.getElem?_cons_succ,List.getElem?_cons_zero,Option.some.injEq]at hj;subst hj;exact⟨v,rfl,h2⟩
  |j+2=>simp at hj⟩
theorem ro_num {M:Nat→Nat→Prop} {w:World} {g:Nat} (h:RoVal M w (.pointer (some ⟨g,0,none⟩)) [.num]): ∃m,w.cell? ⟨g,0,none⟩=some (.int .i64 m):=by
 obtain⟨b,off,vs,e,h1,h2⟩:=h
 cases e
 obtain⟨q1,-,-⟩:=h1 0 .num rfl
 have q2:=h2 0 .num rfl
 rw[Nat.zero_add]at q1
 generalize vs 0=z at q1 q2
 cases q2 with
 |num m=>exact⟨m,q1⟩
theorem split_is (L:Lays.n146 P ρ) (hi9:(P.info? (ρ.t 9)).map (fun i=>(i.zero,i.size,i.bytes))=some (some (.string ByteArray.empty),1,16)) (hg:G (ρ.g 1)=some [.num])
 (hname : ∃ fn, P.funcs[ρ.f 146]? = some fn ∧ (fn.name == "runtime.NumGoroutine") = false ∧ fn.body.isNone = false) : LibIs P G 3 (ρ.f 146) := by
 refine⟨hname,fun args rets hr M w vs hl ha hgl _ hM=> ?_⟩
 unfold libD at hr
 split at hr <;> first | omega | cases hr | skip
 rename_i s p _
 split at hr
 ·rename_i c hc
  split at hr
  ·rename_i hs
   simp only[Option.some.injEq]at hr
   subst hr
   obtain⟨v,u,rfl,r1,r2⟩:=arg2 hl ha
   cases r1;cases r2
   obtain⟨m,hm⟩:=ro_num (hgl _ _ hg)
   have hp:1≤p.size:=by
    have:p.data.toList.length=1:=by rw[hc];rfl
    have h2:p.size=p.data.toList.length:=rfl
    omega
   refine (Any.strings_Split L hi9 s p m w (by omega) hm hp).mono ?_
   rintro e w' ⟨rfl,rfl⟩
   have e1:=Lib.splitB_data p 0 (Lib.countB s p) s
   have e2:Lib.splitK p.data.toList 0 (Lib.countB s p) s.data.toList=cutL c s.data.toList:=by
    have:Lib.countB s p=Lib.count s.data.toList p.data.toList:=rfl
    rw[this,hc]
    exact splitK_cut c _
   rw[e2]at e1
   have hlen:=Lib.splitB_all p hp 0 _ s rfl
   generalize Lib.splitB p 0 (Lib.countB s p) s=ps at e1 hlen ⊢
   have hb:=(Below.refl w.heap.size w).alloc (Nat.le_refl _) (.cells (ps.map Value.string).toArray (ρ.t 9))
   obtain⟨us,u1,u2,u3⟩:=out1 (M:=M) (w':=w.alloc (.cells (ps.map Value.string).toArray (ρ.t 9))) (u:= .slice (some ⟨w.heap.size,0,none⟩) (Lib.countB s p+1) (Lib.countB s p+1)) (x:= .list ((cutL c s.data.toList).map strD)) (by
    have hmap:(cutL c s.data.toList).map strD=ps.map D.str:=by
     rw[← e1,List.map_map]
     apply List.map_congr_left
     intro b _
     rfl
    rw[hmap]
    have hfl:flat (ps.map D.str)=ps.map D.str:=flat_map_cell (fun _=>rfl) ps
    rw[← hlen]
    refine Rep.list w.heap.size 0 ps.length ps.length 1 (ps.map D.str) (fun j=> .string (ps.getD j ByteArray.empty)) (by simp) (Nat.le_refl _) (fun x hx=> ?_) (fun j x hj=> ?_) (fun j x hj=> ?_)
    ·obtain⟨a,_,rfl⟩:=List.mem_map.1 hx;rfl
    ·rw[hfl,List.getElem?_map,Option.map_eq_some_iff]at hj
     obtain⟨a,hj,rfl⟩:=hj
     refine⟨?_,fun hm=>absurd (hM _ _ hm) (Nat.lt_irrefl _),rfl⟩
     rw[Nat.zero_add,cell_of_heap (World.alloc_heap_new w _),List.getD_eq_getElem?_getD,hj]
     simp[hj]
    ·rw[hfl,List.getElem?_map,Option.map_eq_some_iff]at hj
     obtain⟨a,hj,rfl⟩:=hj
     rw[List.getD_eq_getElem?_getD,hj]
     exact Rep.str _)
   exact⟨us,by rw[u1],u2,u3,below_out hb⟩
  ·cases hr
 ·cases hr
theorem join_is (L : Lays.n156 P ρ) (X : Builder.Extra P ρ) (hname : ∃ fn, P.funcs[ρ.f 156]? = some fn ∧ (fn.name == "runtime.NumGoroutine") = false ∧ fn.body.isNone = false) : LibIs P G 4 (ρ.f 156) := by
 refine⟨hname,fun args rets hr M w vs hl ha hgl _ hM=> ?_⟩
 unfold libD at hr
 split at hr <;> first | omega | cases hr | skip
 rename_i xs p _
 split at hr
 ·rename_i l hxs
  split at hr
  ·rename_i hs
   simp only[Option.some.injEq]at hr
   subst hr
   obtain⟨v,u,rfl,r1,r2⟩:=arg2 hl ha
   cases r2
   have hx:=strsD_some hxs
   subst hx
   have fin: ∀ (e:Ending) (w':World),(e= .returned (.string ⟨(Lib.join l p.data.toList).toArray⟩)∧Below w.heap.size w w')→ ∃us:List Value,e= .returned (oneVal us)∧us.length=[strD (joinL p.data.toList l)].length∧(∀ (j:Nat) (x:D),[strD (joinL p.data.toList l)][j]? =some x→ ∃u,us[j]? =some u∧Rep M w' u x)∧
    w'.os=w.os∧w'.tape=w.tape∧w'.output=w.output∧w.heap.size≤w'.heap.size∧ ∀b,b<w.heap.size→w'.heap[b]? =w.heap[b]? :=by
    rintro e w' ⟨rfl,hb⟩
    rw[join_eq]
    obtain⟨us,u1,u2,u3⟩:=out1 (M:=M) (w':=w') (u:= .string ⟨(joinL p.data.toList l).toArray⟩) (x:=strD (joinL p.data.toList l)) (Rep.str _)
    exact⟨us,by rw[u1],u2,u3,below_out hb⟩
   generalize hls:l.map strD=ls at r1
   cases r1 with
   |nil a c hac=>
    have:l=[]:=by cases l with | nil=>rfl | cons=>simp at hls
    subst this
    refine (Any.strings_Join_none L X a c p w).mono fun e w' h=>fin e w' ⟨h.1, ?_⟩
    rw[h.2];exact Below.refl _ _
   |list b off len cap sz _ vs' q1 q2 q3 q4 q5=>
    subst hls
    have hfl:flat (l.map strD)=l.map strD:=flat_map_cell (fun _=>rfl) l
    rw[hfl]at q4 q5
    have hlen:len=l.length:=by rw[q1];simp
    subst hlen
    have hc: ∀ (j:Nat) x,(l.map fun t=>(⟨t.toArray⟩:ByteArray))[j]? =some x→w.cell? ⟨b,off+j,none⟩=some (.string x):=fun j x hj=>by
     rw[List.getElem?_map,Option.map_eq_some_iff]at hj
     obtain⟨a,hj,rfl⟩:=hj
     have h1:(l.map strD)[j]? =some (strD a):=by rw[List.getElem?_map,hj];rfl
     have h2:=q5 j _ h1
     rw[(q4 j _ h1).1]
     generalize vs' j=z at h2
     cases h2;rfl
    have hl2:(l.map fun t=>(⟨t.toArray⟩:ByteArray)).map (fun x=>x.data.toList)=l:=by
     rw[List.map_map]
     conv=>rhs;rw[← List.map_id l]
     apply List.map_congr_left
     intro a _
     rfl
    rcases Nat.eq_zero_or_pos l.length with h0 | h0
    ·have:l=[]:=List.eq_nil_of_length_eq_zero h0
     subst this
     refine (Any.strings_Join_none L X _ cap p w).mono fun e w' h=>fin e w' ⟨h.1, ?_⟩
     rw[h.2];exact Below.refl _ _
    ·have hb:b<w.heap.size:=by
      cases hl3:l with
      |nil=>rw[hl3]at h0;simp at h0
      |cons a r=>
       have:=hc 0 ⟨a.toArray⟩ (by rw[hl3];rfl)
       exact World.block_lt_of_cell? w _ this
     have:=Any.strings_Join L X b off cap (l.map fun t=>(⟨t.toArray⟩:ByteArray)) p w hc hb (by simp;omega) (by simpa using q2) (by rw[hl2,join_eq];omega)
     rw[hl2,List.length_map]at this
     exact this.mono fin
  ·cases hr
 ·cases hr
theorem itoa_is (L : LaysM.n171 P ρ) (hname : ∃ fn, P.funcs[ρ.f 171]? = some fn ∧ (fn.name == "runtime.NumGoroutine") = false ∧ fn.body.isNone = false)
 (htab : ∀ M w, (∀ g cs, G g = some cs → RoVal M w (.pointer (some ⟨g, 0, none⟩)) cs) → (∀ g cs, G g = some cs → g < 100 → (G (900 + g)).isSome = true → w.cell? ⟨g, cs.length, none⟩ = none) → Lib.TabIs P w "internal/strconv.uint64pow10" .u64 Lib.pow10Tab) : LibIs P G 5 (ρ.f 171) := by
 refine⟨hname,fun args rets hr M w vs hl ha hgl hgw hM=> ?_⟩
 unfold libD at hr
 split at hr <;> first | omega | cases hr | skip
 rename_i n _
 split at hr
 ·rename_i hn
  simp only[Option.some.injEq]at hr
  subst hr
  obtain⟨v,rfl,r1⟩:=arg1 hl ha
  cases r1
  refine (Any.strconv_Itoa L n hn.1 hn.2 w (htab M w hgl hgw)).mono ?_
  rintro e w' ⟨rfl,k,os,rfl⟩
  rw[itoaL_eq hn.1 (by omega)]
  obtain⟨us,u1,u2,u3⟩:=out1 (M:=M) (w':=Sort.grow (w.drewN k) os) (u:= .string ⟨(itoaL n).toArray⟩) (x:=strD (itoaL n)) (Rep.str _)
  exact⟨us,by rw[u1],u2,u3,below_out (grow_below w k os)⟩
 ·cases hr
theorem fint_is (L : LaysM.n173 P ρ) (hname : ∃ fn, P.funcs[ρ.f 173]? = some fn ∧ (fn.name == "runtime.NumGoroutine") = false ∧ fn.body.isNone = false)
 (htab : ∀ M w, (∀ g cs, G g = some cs → RoVal M w (.pointer (some ⟨g, 0, none⟩)) cs) → (∀ g cs, G g = some cs → g < 100 → (G (900 + g)).isSome = true → w.cell? ⟨g, cs.length, none⟩ = none) → Lib.TabIs P w "internal/strconv.uint64pow10" .u64 Lib.pow10Tab) : LibIs P G 6 (ρ.f 173) := by
 refine⟨hname,fun args rets hr M w vs hl ha hgl hgw hM=> ?_⟩
 unfold libD at hr
 split at hr <;> first | omega | cases hr | skip
 rename_i n _
 split at hr
 ·rename_i hn
  simp only[Option.some.injEq]at hr
  subst hr
  obtain⟨v,u,rfl,r1,r2⟩:=arg2 hl ha
  cases r1;cases r2
  refine (Any.strconv_FormatInt_10 L n hn.1 hn.2 w (htab M w hgl hgw)).mono ?_
  rintro e w' ⟨rfl,k,os,rfl⟩
  rw[itoaL_eq hn.1 (by omega)]
  obtain⟨us,u1,u2,u3⟩:=out1 (M:=M) (w':=Sort.grow (w.drewN k) os) (u:= .string ⟨(itoaL n).toArray⟩) (x:=strD (itoaL n)) (Rep.str _)
  exact⟨us,by rw[u1],u2,u3,below_out (grow_below w k os)⟩
 ·cases hr
theorem ro_err {M:Nat→Nat→Prop} {w:World} {g:Nat} (h:RoVal M w (.pointer (some ⟨g,0,none⟩)) [.err]): ∃te pe,w.cell? ⟨g,0,none⟩=some (.iface te pe):=by
 obtain⟨b,off,vs,e,h1,h2⟩:=h
 cases e
 obtain⟨q1,-,-⟩:=h1 0 .err rfl
 have q2:=h2 0 .err rfl
 rw[Nat.zero_add]at q1
 generalize vs 0=z at q1 q2
 cases q2 with
 |err t v=>exact⟨t,v,q1⟩
theorem atoi_is (L : LaysC.n172 P ρ) (hname : ∃ fn, P.funcs[ρ.f 172]? = some fn ∧ (fn.name == "runtime.NumGoroutine") = false ∧ fn.body.isNone = false) (hs : G (ρ.g 15) = some [.err]) (hr' : G (ρ.g 16) = some [.err]) : LibIs P G 8 (ρ.f 172) := by
 refine⟨hname,fun args rets hr M w vs hl ha hgl hgw hM=> ?_⟩
 unfold libD at hr
 split at hr <;> first | omega | cases hr | skip
 rename_i s _
 split at hr
 ·rename_i hn
  simp only[Option.some.injEq]at hr
  subst hr
  obtain⟨v,rfl,r1⟩:=arg1 hl ha
  cases r1
  split
  ·rename_i v hv
   refine (Any.strconv_Atoi_ok L s (by omega) v hv w).mono ?_
   rintro e w' ⟨rfl,hw⟩
   have hb:Below w.heap.size w w':=by
    rcases hw with rfl | ⟨t,rfl⟩
    ·exact Below.refl _ _
    ·exact Lib.bytesWorld_below _ _ _
   obtain⟨us,u1,u2,u3⟩:=out2 (M:=M) (w':=w') (u:= .int .i64 v) (v:= .nilIface) (x:= .int .i64 v) (y:= .nilI) (Rep.int _ _) Rep.nilI
   exact⟨us,by rw[u1],u2,u3,below_out hb⟩
  ·rename_i hv
   obtain⟨te,pe,hc⟩:=ro_err (hgl _ _ hr')
   refine (Any.strconv_Atoi_range L s (by omega) hv _ w hc (.inr ⟨te,pe,rfl⟩)).mono ?_
   rintro e w' ⟨N,rfl,h1,h2,hb⟩
   obtain⟨us,u1,u2,u3⟩:=out2 (M:=M) (w':=w') (u:= .int .i64 (Lib.atoiSat s.data.toList)) (v:= .iface (ρ.t 168) (.pointer (some ⟨N,0,none⟩))) (x:= .int .i64 (Lib.atoiSat s.data.toList)) (y:= .err) (Rep.int _ _) (Rep.err _ _)
   exact⟨us,by rw[u1],u2,u3,below_out hb⟩
  ·obtain⟨te,pe,hc⟩:=ro_err (hgl _ _ hs)
   refine (Any.strconv_Atoi_syntax L s (by omega) (by cases he:Lib.atoiAll s.data.toList <;> simp_all) _ w hc (.inr ⟨te,pe,rfl⟩)).mono ?_
   rintro e w' ⟨N,rfl,h1,h2,hb⟩
   obtain⟨us,u1,u2,u3⟩:=out2 (M:=M) (w':=w') (u:= .int .i64 0) (v:= .iface (ρ.t 168) (.pointer (some ⟨N,0,none⟩))) (x:= .int .i64 0) (y:= .err) (Rep.int _ _) (Rep.err _ _)
   exact⟨us,by rw[u1],u2,u3,below_out hb⟩
 ·cases hr
theorem tab_of {name:String} {g:Nat} {zs:List Int} {M:Nat→Nat→Prop} {w:World} (hg:P.globalNamed name=some g) (hr:RoVal M w (.pointer (some ⟨g,0,none⟩)) (zs.map fun z=>D.int .u64 z)) (h0:0<zs.length) (hn:w.cell? ⟨g,(zs.map fun z=>D.int .u64 z).length,none⟩=none):Lib.TabIs P w name .u64 zs:=by
 obtain⟨b,off,vs,e,h1,h2⟩:=hr
 cases e
 have hc: ∀j z,zs[j]? =some z→w.cell? ⟨g,j,none⟩=some (.int .u64 z):=fun j z hj=>by
  have hj':(zs.map fun z=>D.int .u64 z)[j]? =some (.int .u64 z):=by rw[List.getElem?_map,hj];rfl
  obtain⟨q1,-,-⟩:=h1 j _ hj'
  have q2:=h2 j _ hj'
  rw[Nat.zero_add]at q1
  generalize vs j=u at q1 q2
  cases q2
  exact q1
 obtain⟨z0,hz0⟩: ∃z,zs[0]? =some z:=⟨_,List.getElem?_eq_getElem h0⟩
 have c0:=hc 0 z0 hz0
 unfold Lib.TabIs World.var?
 rw[hg]
 simp only[Option.bind_some]
 cases ho:w.heap[g]? with
 |none=>simp[World.cell?,ho]at c0
 |some o=>
  cases o with
  |cells cs ty fz=>
   simp only[Option.some.injEq]
   have hcell: ∀j,w.cell? ⟨g,j,none⟩=cs[j]? :=cell_of_heap ho
   rw[List.length_map,hcell]at hn
   apply Array.ext_getElem?
   intro j
   by_cases hj:j<zs.length
   ·rw[← hcell,hc j zs[j] (List.getElem?_eq_getElem hj)]
    simp[hj]
   ·rw[Array.getElem?_eq_none (by rw[Array.getElem?_eq_none_iff]at hn;omega),Array.getElem?_eq_none (by simp;omega)]
  |_=>simp[World.cell?,ho]at c0
end
end Go.Am
