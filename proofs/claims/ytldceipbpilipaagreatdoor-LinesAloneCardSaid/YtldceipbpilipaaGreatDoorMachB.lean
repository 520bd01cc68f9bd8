/- The abstract machine: memory. -/
import Derived.Laws.MakeOwn
import Derived.Laws.IdiomCopy
import GoSem.Builtin.Copy
import GoSem.Builtin.Clear
import Derived.Maps.RangeRun
import Derived.Test.YtldceipbpilipaaGreatDoorMachA
set_option linter.all false
namespace Go.Am
section
variable {X:Nat→Nat→Prop} {ρ ρ' ρ'':Places} {h h' h'':List Obj} {w w' w'':World} {P:Program}
theorem putCells_get {α:Type} {cs vs:List α} {off:Nat} (hle:off+vs.length≤cs.length) (i:Nat):
 (putCells cs off vs)[i]? =if off≤i∧i<off+vs.length then vs[i - off]? else cs[i]? :=by
 unfold putCells
 have e1:(cs.take off).length=off:=by simp;omega
 rcases Nat.lt_or_ge i off with h1 | h1
 ·rw[if_neg (by omega),List.append_assoc,List.getElem?_append_left (by omega),List.getElem?_take,if_pos h1]
 ·rcases Nat.lt_or_ge i (off+vs.length) with h2 | h2
  ·rw[if_pos ⟨h1,h2⟩,List.getElem?_append_left (by simp;omega),List.getElem?_append_right (by omega),e1]
  ·rw[if_neg (by omega),List.getElem?_append_right (by simp;omega),List.getElem?_drop]
   congr 1
   simp only[List.length_append,e1]
   omega
theorem putCells_length {α:Type} {cs vs:List α} {off:Nat} (hle:off+vs.length≤cs.length):(putCells cs off vs).length=cs.length:=by
 simp[putCells];omega
theorem CellsRel.put {us us':List Value} {cs cs':List V} {off:Nat} (hc:CellsRel X ρ h w us cs) (hc':CellsRel X ρ h w us' cs') (hle:off+cs'.length≤cs.length):
 CellsRel X ρ h w (putCells us off us') (putCells cs off cs'):=by
 have hle':off+us'.length≤us.length:=by rw[hc.1,hc'.1];exact hle
 refine⟨by rw[putCells_length hle,putCells_length hle',hc.1],fun j c hj=> ?_⟩
 rw[putCells_get hle]at hj
 rw[putCells_get hle',hc'.1]
 split at hj
 ·rename_i hr
  rw[if_pos hr]
  exact hc'.2 _ c hj
 ·rename_i hr
  rw[if_neg hr]
  exact hc.2 _ c hj
theorem foldl_set (off:Nat): ∀ (vs:List Value) (k:Nat) (cs:Array Value),off+k+vs.length≤cs.size→
 ((vs.zipIdx k).foldl (fun (cs:Array Value) (p:Value × Nat)=>cs.setIfInBounds (off+p.2) p.1) cs).toList=putCells cs.toList (off+k) vs
 |[],k,cs,_=>by simp[putCells]
 |v::vs,k,cs,hle=>by
  simp only[List.length_cons]at hle
  simp only[List.zipIdx_cons,List.foldl_cons]
  rw[foldl_set off vs (k+1) _ (by simp;omega)]
  apply List.ext_getElem?
  intro i
  rw[putCells_get (by simp;omega),putCells_get (by simp;omega)]
  simp only[List.length_cons,Array.toList_setIfInBounds]
  rcases Nat.lt_trichotomy i (off+k) with h1 | h1 | h1
  ·rw[if_neg (by omega),if_neg (by omega),List.getElem?_set_ne (by omega)]
  ·subst h1
   rw[if_neg (by omega),if_pos (by omega),List.getElem?_set_self (by simp;omega)]
   simp
  ·by_cases h2:i<off+k+(vs.length+1)
   ·rw[if_pos (by omega),if_pos (by omega),show i - (off+k)=(i - (off+(k+1)))+1 by omega,List.getElem?_cons_succ]
   ·rw[if_neg (by omega),if_neg (by omega),List.getElem?_set_ne (by omega)]
theorem fill_sound (place:Nat→Option (Nat × Nat)): ∀ (vp:List (Nat × V)) (rp:List (Nat × Value)) (cs cs':List V) (us:Array Value),fillV place cs vp=some cs'→CellsRel X ρ h w us.toList cs→
 rp.length=vp.length→(∀ (j:Nat) (p:Nat × V),vp[j]? =some p→ ∃u,rp[j]? =some (p.1,u)∧VRel X ρ h w u p.2)→
 ∃us',Instr.fill place us rp=some us'∧CellsRel X ρ h w us'.toList cs'
 |[],rp,cs,cs',us,hf,hc,hl,_=>by
  simp only[fillV,Option.some.injEq]at hf;subst hf
  have:rp=[]:=List.eq_nil_of_length_eq_zero (by simpa using hl)
  subst this
  exact⟨us,rfl,hc⟩
 |(i,v)::vp,rp,cs,cs',us,hf,hc,hl,hp=>by
  simp only[fillV]at hf
  split at hf
  ·rename_i off size hpl
   split at hf
   ·rename_i hcond
    obtain⟨h1,h2,h3⟩:=hcond
    cases rp with
    |nil=>simp at hl
    |cons q rp=>
     obtain⟨u,hu1,hu2⟩:=hp 0 (i,v) (by simp)
     simp only[List.getElem?_cons_zero,Option.some.injEq]at hu1
     subst hu1
     have hcu:=hu2.cells h3
     have hsz:u.cells.size=size:=by rw[cells_length hu2 h3,h1]
     have hus:off+size≤us.size:=by have:=hc.1;simp only[Array.length_toList]at this;omega
     have hput:=foldl_set off u.cells.toList 0 us (by simp only[Array.length_toList];omega)
     obtain⟨us',e1,e2⟩:=fill_sound place vp rp _ cs' (u.cells.zipIdx.foldl (fun cs (c,j)=>cs.setIfInBounds (off+j) c) us) hf
      (by
        have e3:(u.cells.zipIdx.foldl (fun (cs:Array Value) (x:Value × Nat)=>cs.setIfInBounds (off+x.2) x.1) us).toList=putCells us.toList off u.cells.toList:=by
         rw[← Array.foldl_toList,Array.toList_zipIdx]
         simpa using hput
        show CellsRel X ρ h w (u.cells.zipIdx.foldl (fun (cs:Array Value) (x:Value × Nat)=>cs.setIfInBounds (off+x.2) x.1) us).toList _
        rw[e3]
        exact hc.put hcu (by omega))
      (by simpa using hl) (fun j p hj=>by simpa using hp (j+1) p (by simpa using hj))
     refine⟨us', ?_,e2⟩
     simp only[Instr.fill,hpl,hsz]
     rw[if_neg (by simp;omega)]
     exact e1
   ·cases hf
  ·cases hf
theorem mapM_run {α β:Type} (f:α→Sem β) (g:α→β): ∀ (l:List α),(∀x∈l,(f x).run P w= .ok (g x) w)→(l.mapM f).run P w= .ok (l.map g) w
 |[],_=>rfl
 |x::l,hf=>by
  simp[List.mapM_cons,hf x (by simp),mapM_run f g l fun y hy=>hf y (by simp[hy])]
theorem buildV_sound {t:TypeId} {parts:List (Nat × V)} {x:V} {rp:List (Nat × Value)} (hx:buildV P t parts=some x) (hl:rp.length=parts.length)
 (hp: ∀ (j:Nat) (p:Nat × V),parts[j]? =some p→ ∃u,rp[j]? =some (p.1,u)∧VRel X ρ h w u p.2):
 ∃u,(Instr.build t rp.toArray).run P w= .ok u w∧VRel X ρ h w u x:=by
 unfold buildV at hx
 split at hx
 ·rename_i z fs hz hs
  split at hx
  ·rename_i hok
   simp only[Bool.and_eq_true]at hok
   simp only[Option.map_eq_some_iff]at hx
   obtain⟨cs,hf,rfl⟩:=hx
   have hc:CellsRel X ρ h w z.cells.toList (z.cells.toList.map constCell):=cellsRel_const _ hok.1
   have hsz: ∀f∈fs.toList, ∃n,sizeOf? P f.type=some n:=fun f hf=>by
    have:=List.all_eq_true.1 hok.2 f hf
    exact Option.isSome_iff_exists.1 this
   obtain⟨us',e1,e2⟩:=fill_sound _ _ rp _ _ z.cells hf hc hl hp
   have hm:(fs.mapM fun f=>do pure (f.offset,← sizeOf f.type):Sem (Array (Nat × Nat))).run P w= .ok (fs.map fun f=>(f.offset,(sizeOf? P f.type).getD 0)) w:=by
    rw[Array.mapM_eq_mapM_toList,Sem.run_map,mapM_run _ (fun f=>(f.offset,(sizeOf? P f.type).getD 0)) _ fun f hf=>by
     obtain⟨n,hn⟩:=hsz f hf
     simp[sizeOf_run hn,hn]]
    simp only[Result.andThen_ok]
    congr 1
    apply Array.ext'
    simp
   have hplace: ∀l us,Instr.fill (fun (i:Nat)=>(fs[i]?).bind fun (f:Field)=>(sizeOf? P f.type).map fun s=>(f.offset,s)) us l=
    Instr.fill (fun (i:Nat)=>(fs.map fun (f:Field)=>(f.offset,(sizeOf? P f.type).getD 0))[i]?) us l:=by
    have:(fun (i:Nat)=>(fs[i]?).bind fun (f:Field)=>(sizeOf? P f.type).map fun s=>(f.offset,s))=(fun (i:Nat)=>(fs.map fun (f:Field)=>(f.offset,(sizeOf? P f.type).getD 0))[i]?):=by
     funext i
     simp only[Array.getElem?_map]
     cases hfi:fs[i]? with
     |none=>rfl
     |some f=>
      obtain⟨n,hn⟩:=hsz f (by simpa using Array.mem_of_getElem? hfi)
      simp[hn]
    intro l us
    rw[this]
   rw[hplace]at e1
   refine⟨.agg us', ?_,mkAgg_rel e2⟩
   simp only[Instr.build,Sem.run_bind,zeroValue_run hz,Result.andThen_ok,run_underlying hs,hm]
   rw[show Instr.fill _ z.cells rp.toArray.toList=some us' from e1]
   rfl
  ·cases hx
 ·rename_i z n e hz hs
  split at hx
  ·rename_i s hsz
   split at hx
   ·rename_i hok
    simp only[Option.map_eq_some_iff]at hx
    obtain⟨cs,hf,rfl⟩:=hx
    have hc:CellsRel X ρ h w z.cells.toList (z.cells.toList.map constCell):=cellsRel_const _ hok
    obtain⟨us',e1,e2⟩:=fill_sound _ _ rp _ _ z.cells hf hc hl hp
    refine⟨.agg us', ?_,mkAgg_rel e2⟩
    simp only[Instr.build,Sem.run_bind,zeroValue_run hz,Result.andThen_ok,run_underlying hs,sizeOf_run hsz]
    rw[show Instr.fill _ z.cells rp.toArray.toList=some us' from e1]
    rfl
   ·cases hx
  ·cases hx
 ·cases hx
/-! ### new objects -/
theorem unfrozen_new (o:Array Value) (e:TypeId):Unfrozen (w.alloc (.cells o e)) w.heap.size o.size:=fun cs t fz he=>by
 have h1:(w.alloc (.cells o e)).heap[w.heap.size]? =some (.cells o e (0,0)):=heap_alloc_new w _
 rw[h1]at he
 cases he
 exact .inr rfl
theorem hao (w:World) (o) (b:Nat) (hb:b<w.heap.size):(w.alloc o).heap[b]? =w.heap[b]? :=by first | exact heap_alloc_old w o b hb | exact heap_alloc_old w o hb
theorem new_box (H:HRel X ρ h w) {us:Array Value} {cs:List V} (e:TypeId) (hc:CellsRel X ρ h w us.toList cs):
 Stp X ρ h w (ρ++[some (w.heap.size,0)]) (h++[.box cs]) (w.alloc (.cells us e))∧
 VRel X (ρ++[some (w.heap.size,0)]) (h++[.box cs]) (w.alloc (.cells us e)) (.pointer (some ⟨w.heap.size,0,none⟩)) (.ptr h.length 0):=by
 obtain⟨h1,h2,h3⟩:=step_push (w':=w.alloc (.cells us e)) H (.box cs) (some (w.heap.size,0)) rfl rfl rfl (by simp) (fun b hb=>hao w _ b hb) (fun b c e=>by cases e;exact Nat.le_refl _)
  fun hf he=>⟨nofun,fun _=>⟨w.heap.size,0,us,e,(0,0),rfl,heap_alloc_new w _,by simpa using hc.1,unfrozen_new us e,fun j x hj=>by
   obtain⟨u,k1,k2,k3⟩:=hc.2 j x hj
   exact⟨u,by simpa using k1,k2.mono hf he,k3⟩⟩⟩
 refine⟨⟨h1,h2,h3⟩,.box cs,w.heap.size,0,by simp,rfl, ?_,rfl⟩
 rw[← H.len]
 simp
theorem new_arr (H:HRel X ρ h w) (hsame:w'.heap=w.heap) (hos:w'.os=w.os) (htape:w'.tape=w.tape) (hout:w'.output=w.output) {us:Array Value} {xs:List D} {sz cap:Nat} (e:TypeId)
 (hsz:0<sz) (hus:us.size=cap*sz) (hle:xs.length≤cap) (hcap:cap≤maxLen) (hx: ∀x∈xs,x.cells.length=sz)
 (hc: ∀ (j:Nat) (x:D),(flat xs)[j]? =some x→ ∃u,us[j]? =some u∧Rep (Mut X ρ h) w u x∧x.isCell=true):
 Stp X ρ h w (ρ++[some (w.heap.size,cap)]) (h++[.arr sz xs 0]) (w'.alloc (.cells us e))∧
 VRel X (ρ++[some (w.heap.size,cap)]) (h++[.arr sz xs 0]) (w'.alloc (.cells us e)) (.slice (some ⟨w.heap.size,0,none⟩) xs.length cap) (.arr h.length xs.length):=by
 have hsize:w'.heap.size=w.heap.size:=by rw[hsame]
 obtain⟨h1,h2,h3⟩:=step_push (w':=w'.alloc (.cells us e)) H (.arr sz xs 0) (some (w.heap.size,cap)) hos htape hout (by simp[hsize])
  (fun b hb=>by rw[hao w' _ b (by omega),hsame]) (fun b c e=>by cases e;exact Nat.le_refl _)
  fun hf he=>⟨Nat.zero_le _,us,e,(0,0),by rw[← hsize];exact heap_alloc_new w' _,hus,hle,hcap,hsz,hx,by rw[← hsize];exact unfrozen_new us e,fun j x hj=>by
   obtain⟨u,k1,k2,k3⟩:=hc j x hj
   exact⟨u,k1,k2.mono hf.imm,k3⟩⟩
 refine⟨⟨h1,h2,h3⟩,⟨_,_,_,rfl⟩,sz,xs,0,some (w.heap.size,cap),by simp, ?_,Nat.le_refl _,fun _=>rfl⟩
 rw[← H.len]
 simp
theorem new_nil (H:HRel X ρ h w) (sz:Nat):Stp X ρ h w (ρ++[none]) (h++[.arr sz [] 0]) w∧VRel X (ρ++[none]) (h++[.arr sz [] 0]) w (.slice none 0 0) (.arr h.length 0):=by
 obtain⟨h1,h2,h3⟩:=step_push (w':=w) H (.arr sz [] 0) none rfl rfl rfl (Nat.le_refl _) (fun _ _=>rfl) (fun b c e=>by cases e) fun _ _=>⟨Nat.zero_le _,rfl⟩
 refine⟨⟨h1,h2,h3⟩,⟨_,_,_,rfl⟩,sz,[],0,none,by simp, ?_,Nat.le_refl _,fun _=>⟨rfl,none,rfl⟩⟩
 rw[← H.len]
 simp
theorem allocV_sound {t:TypeId} {x:V} (hx:allocV P h t=some (x,h')) (H:HRel X ρ h w):
 ∃v ρ' w',(Instr.alloc t true (.tuple #[])).run P w= .ok v w'∧Stp X ρ h w ρ' h' w'∧VRel X ρ' h' w' v x:=by
 unfold allocV at hx
 split at hx
 ·rename_i z hz
  split at hx
  ·rename_i hok
   simp only[Option.some.injEq,Prod.mk.injEq]at hx;obtain⟨rfl,rfl⟩:=hx
   obtain⟨h1,h2⟩:=new_box H t (us:=z.cells) (cellsRel_const (ρ:=ρ) (h:=h) (w:=w) z.cells.toList hok)
   exact⟨_,_,_,by simp[Instr.alloc,zeroValue_run hz,newVar,newRow],h1,h2⟩
  ·cases hx
 ·cases hx
theorem box_sound {t:TypeId} {A:V} {v:Value} (hs:A.storable=true) (H:HRel X ρ h w) (hv:VRel X ρ h w v A):
 ∃u ρ' w',(Instr.box t v).run P w= .ok u w'∧Stp X ρ h w ρ' (h++[.box A.cells]) w'∧VRel X ρ' (h++[.box A.cells]) w' u (.ptr h.length 0):=by
 obtain⟨h1,h2⟩:=new_box H t (us:=v.cells) (hv.cells hs)
 exact⟨_,_,_,by simp[Instr.box,newVar,newRow],h1,h2⟩
theorem flat_replicate {x c:D} {n j:Nat} (hj:(flat (List.replicate n x))[j]? =some c):x.cells[j % x.cells.length]? =some c:=by
 induction n generalizing j with
 |zero=>simp[flat]at hj
 |succ n ih=>
  simp only[flat,List.replicate_succ,List.flatMap_cons]at hj
  rcases Nat.lt_or_ge j x.cells.length with hlt | hge
  ·rw[List.getElem?_append_left hlt]at hj
   rw[Nat.mod_eq_of_lt hlt];exact hj
  ·rw[List.getElem?_append_right hge]at hj
   have:=ih hj
   rwa [← Nat.mod_eq_sub_mod hge]at this
theorem makeSliceV_sound {t:TypeId} {L C x:V} {l c:Value} (hx:makeSliceV P h t L C=some (x,h')) (H:HRel X ρ h w) (hl:VRel X ρ h w l L) (hc:VRel X ρ h w c C):
 ∃v ρ' w',(Instr.makeSlice t l c).run P w= .ok v w'∧Stp X ρ h w ρ' h' w'∧VRel X ρ' h' w' v x:=by
 unfold makeSliceV at hx
 split at hx
 ·rename_i e k n k' m hs
  cases hl;cases hc
  split at hx
  ·rename_i i zd hi hz
   split at hx
   ·rename_i hcond
    obtain⟨c1,c2,c3,c4,c5,c6⟩:=hcond
    simp only[Option.some.injEq,Prod.mk.injEq]at hx;obtain⟨rfl,rfl⟩:=hx
    obtain⟨z,hz1,hz2⟩:=zeroD_rel hz
    have hiz:i.zero=some z:=by
     have:=hz1
     simp only[zero?,hi,Option.bind_some]at this
     exact this
    obtain⟨n',rfl⟩:=Int.eq_ofNat_of_zero_le c1
    obtain⟨m',rfl⟩:=Int.eq_ofNat_of_zero_le (Int.le_trans c1 c2)
    have hm:m'<2147483648:=by omega
    have hb:i.bytes*m'≤65536*2147483648:=Nat.mul_le_mul c4 (by omega)
    have hb2:(i.bytes:Int)*(m':Int)≤281474976710656:=by
     have:((i.bytes*m':Nat):Int)≤281474976710656:=by omega
     rwa [Int.natCast_mul]at this
    have hr:=run_make (P:=P) w t e i z hs hi hiz k k' n' m' (by omega) c2 hb2 (by omega)
    simp only[Int.toNat_natCast]at hr ⊢
    have hrep:=hz2 (Mut X ρ h) w
    obtain⟨q1,q2⟩:=hrep.cells
    rw[c6]at q1
    obtain⟨s1,s2⟩:=new_arr (w':=w) H rfl rfl rfl rfl e (us:=madeCells z.cells (m'*i.size)) (xs:=List.replicate n' zd) (sz:=i.size) (cap:=m') c5 (size_madeCells _ _)
     (by simp;omega) (by simp[maxLen];omega) (fun x hx=>by rw[List.eq_of_mem_replicate hx];exact c6)
     (fun j c hj=>by
       have hlt:=lt_of_getElem? hj
       rw[flat_length (sz:=i.size) fun x hx=>by rw[List.eq_of_mem_replicate hx];exact c6]at hlt
       simp only[List.length_replicate]at hlt
       have hlt':j<m'*i.size:=Nat.lt_of_lt_of_le hlt (Nat.mul_le_mul_right _ (by omega))
       have hcj:=flat_replicate hj
       rw[c6]at hcj
       obtain⟨u,k1,k2,k3⟩:=q2 _ c hcj
       refine⟨u, ?_,k2,k3⟩
       simp only[madeCells,Array.getElem?_map]
       rw[Array.getElem?_range,if_pos hlt']
       simp only[Option.map_some,q1]
       rw[getElem!_def,k1])
    simp only[List.length_replicate]at s2
    exact⟨_,_,_,hr,s1,s2⟩
   ·cases hx
  ·cases hx
 ·cases hx
theorem makeRowsV_sound {t:TypeId} {L C x:V} {l c:Value} (hx:makeRowsV P h t L C=some (x,h')) (H:HRel X ρ h w) (hl:VRel X ρ h w l L) (hc:VRel X ρ h w c C):
 ∃v ρ' w',(Instr.makeSlice t l c).run P w= .ok v w'∧Stp X ρ h w ρ' h' w'∧VRel X ρ' h' w' v x:=by
 unfold makeRowsV at hx
 split at hx
 ·rename_i e k n k' m hs
  cases hl;cases hc
  split at hx
  ·rename_i i hi
   split at hx
   ·rename_i hcond
    obtain⟨c1,rfl,c3,c4,c5,c6⟩:=hcond
    simp only[Option.some.injEq,Prod.mk.injEq]at hx;obtain⟨rfl,rfl⟩:=hx
    simp only[Option.map_eq_some_iff]at c6
    obtain⟨z,hiz,hzc⟩:=c6
    obtain⟨n',rfl⟩:=Int.eq_ofNat_of_zero_le c1
    have hb:i.bytes*n'≤65536*2147483648:=Nat.mul_le_mul c4 (by omega)
    have hb2:(i.bytes:Int)*(n':Int)≤281474976710656:=by
     have:((i.bytes*n':Nat):Int)≤281474976710656:=by omega
     rwa [Int.natCast_mul]at this
    have hr:=run_make (P:=P) w t e i z hs hi hiz k k' n' n' (by omega) (by omega) hb2 (by omega)
    simp only[Int.toNat_natCast]at hr ⊢
    obtain⟨q1,q2⟩:=cellsRel_const (X:=X) (ρ:=ρ) (h:=h) (w:=w) z.cells.toList (by rw[hzc];rfl)
    rw[hzc]at q1 q2
    obtain⟨u,k1,k2,k3⟩:=q2 0 .nilS rfl
    have hus:(madeCells z.cells (n'*i.size)).size=n':=by rw[size_madeCells,c5,Nat.mul_one]
    have hz1:z.cells.size=1:=by simpa using q1
    have hu0:z.cells[0]? =some u:=by simpa using k1
    obtain⟨s1,s2⟩:=new_box (us:=madeCells z.cells (n'*i.size)) (cs:=List.replicate n' .nilS) H e ⟨by simpa using hus,fun j c hj=>by
     have hlt:=lt_of_getElem? hj
     simp only[List.length_replicate]at hlt
     rw[List.getElem?_replicate,if_pos hlt]at hj
     cases hj
     refine⟨u, ?_,k2,k3⟩
     rw[Array.getElem?_toList]
     simp only[madeCells,Array.getElem?_map]
     rw[Array.getElem?_range,if_pos (by rw[c5];omega)]
     simp only[Option.map_some,hz1,Nat.mod_one]
     rw[getElem!_def,hu0]⟩
    obtain⟨o,b,c,e1,_,e3,e4⟩:=s2
    cases e4
    refine⟨_,_,_,hr,s1,.inl ⟨List.replicate n' .nilS,_,c,by simp,e3,by simp⟩⟩
   ·cases hx
  ·cases hx
 ·cases hx
end
end Go.Am
namespace Go.Am
section
variable {X:Nat→Nat→Prop} {ρ ρ' ρ'':Places} {h h' h'':List Obj} {w w' w'':World} {P:Program}
/-! ### literals of slices -/
theorem fill_row (size:Nat): ∀ (rp:List (Nat × Value)) (k:Nat) (us:Array Value),(∀ (j:Nat) (p:Nat × Value),rp[j]? =some p→p.1=k+j∧p.2.cells.size=size)→(k+rp.length)*size≤us.size→
 ∃us',Instr.fill (fun i=>some (i*size,size)) us rp=some us'∧us'.size=us.size∧(∀j,j<k*size→us'[j]? =us[j]?)∧
  ∀ (j i:Nat) (p:Nat × Value) (u:Value),rp[j]? =some p→p.2.cells[i]? =some u→us'[(k+j)*size+i]? =some u
 |[],k,us,_,_=>⟨us,rfl,rfl,fun _ _=>rfl,fun j i p u hj=>by simp at hj⟩
 |p::rp,k,us,hp,hle=>by
  obtain⟨e1,e2⟩:=hp 0 p (by simp)
  simp only[Nat.add_zero]at e1
  simp only[List.length_cons]at hle
  have hle1:k*size+size≤us.size:=by
   have:(k+1)*size≤(k+(rp.length+1))*size:=Nat.mul_le_mul_right _ (by omega)
   rw[Nat.add_mul]at this
   omega
  have hput:=foldl_set (k*size) p.2.cells.toList 0 us (by simp only[Array.length_toList];omega)
  have hsame:(p.2.cells.zipIdx.foldl (fun (cs:Array Value) (x:Value × Nat)=>cs.setIfInBounds (k*size+x.2) x.1) us).toList=putCells us.toList (k*size) p.2.cells.toList:=by
   rw[← Array.foldl_toList,Array.toList_zipIdx]
   simpa using hput
  generalize hus1:p.2.cells.zipIdx.foldl (fun (cs:Array Value) (x:Value × Nat)=>cs.setIfInBounds (k*size+x.2) x.1) us=us1 at hsame
  have hsz1:us1.size=us.size:=by
   have:=congrArg List.length hsame
   rw[putCells_length (by simp only[Array.length_toList];omega)]at this
   simpa using this
  have hget: ∀i,us1[i]? =if k*size≤i∧i<k*size+size then p.2.cells[i - k*size]? else us[i]? :=fun i=>by
   have:us1[i]? =us1.toList[i]? :=by simp
   rw[this,hsame,putCells_get (by simp only[Array.length_toList];omega)]
   simp only[Array.length_toList,e2,Array.getElem?_toList]
  obtain⟨us',f1,f2,f3,f4⟩:=fill_row size rp (k+1) us1 (fun j q hj=>by
   obtain⟨g1,g2⟩:=hp (j+1) q (by simpa using hj)
   exact⟨by omega,g2⟩) (by rw[hsz1];refine Nat.le_trans ?_ hle;exact Nat.mul_le_mul_right _ (by omega))
  refine⟨us', ?_,by omega,fun j hj=> ?_,fun j i q u hj hu=> ?_⟩
  ·obtain⟨i,v⟩:=p
   simp only at e1 e2
   subst e1
   simp only[Instr.fill,e2]
   rw[if_neg (by simp;omega)]
   show Instr.fill _ (v.cells.zipIdx.foldl (fun (cs:Array Value) (x:Value × Nat)=>cs.setIfInBounds (i*size+x.2) x.1) us) rp=_
   rw[hus1]
   exact f1
  ·rw[f3 j (by rw[Nat.add_mul];omega),hget,if_neg (by omega)]
  ·cases j with
   |zero=>
    simp only[List.getElem?_cons_zero,Option.some.injEq]at hj
    subst hj
    have hi:i<size:=by
     rw[← e2]
     exact (Array.getElem?_eq_some_iff.1 hu).1
    rw[Nat.add_zero,f3 (k*size+i) (by rw[Nat.add_mul];omega),hget,if_pos (by omega),Nat.add_sub_cancel_left,hu]
   |succ j=>
    have:=f4 j i q u (by simpa using hj) hu
    rwa [show k+1+j=k+(j+1) by omega]at this
theorem inOrder_spec: ∀ {parts:List (Nat × V)} {k:Nat},inOrder parts k=true→ ∀ (j:Nat) (p:Nat × V),parts[j]? =some p→p.1=k+j
 |[],_,_,j,p,hj=>by simp at hj
 |(i,v)::r,k,ho,j,p,hj=>by
  simp only[inOrder,Bool.and_eq_true,beq_iff_eq]at ho
  cases j with
  |zero=>simp at hj;subst hj;exact ho.1
  |succ j=>
   have:=inOrder_spec ho.2 j p (by simpa using hj)
   omega
theorem flat_inv {xs:List D} {sz:Nat} (hs: ∀x∈xs,x.cells.length=sz) (h0:0<sz) {j:Nat} {c:D} (hj:(flat xs)[j]? =some c):
 ∃x,xs[j / sz]? =some x∧x.cells[j % sz]? =some c:=by
 have hlt:=lt_of_getElem? hj
 rw[flat_length hs]at hlt
 have hdiv:j / sz<xs.length:=by rw[Nat.div_lt_iff_lt_mul h0];exact hlt
 have hx:xs[j / sz]? =some xs[j / sz]:=by simp[hdiv]
 have hlen:=hs xs[j / sz] (by simp)
 have hmod:j % sz<xs[j / sz].cells.length:=by rw[hlen];exact Nat.mod_lt _ h0
 have hc:xs[j / sz].cells[j % sz]? =some xs[j / sz].cells[j % sz]:=by simp[hmod]
 refine⟨_,hx, ?_⟩
 have:=flat_get hs hx hc
 rw[Nat.mul_comm,Nat.div_add_mod]at this
 rw[this]at hj
 rw[hc]
 exact hj
theorem buildSliceV_sound {t:TypeId} {len:Nat} {parts:List (Nat × V)} {x:V} {rp:List (Nat × Value)} (hx:buildSliceV P h t len parts=some (x,h')) (H:HRel X ρ h w) (hl:rp.length=parts.length)
 (hp: ∀ (j:Nat) (p:Nat × V),parts[j]? =some p→ ∃u,rp[j]? =some (p.1,u)∧VRel X ρ h w u p.2):
 ∃v ρ' w',(Instr.buildSlice t len rp.toArray).run P w= .ok v w'∧Stp X ρ h w ρ' h' w'∧VRel X ρ' h' w' v x:=by
 unfold buildSliceV at hx
 split at hx
 ·rename_i e hs
  split at hx
  ·rename_i sz z hsz hz
   split at hx
   ·rename_i hcond
    obtain⟨c1,c2,c3,c4⟩:=hcond
    split at hx
    ·rename_i xs h1 hxs
     split at hx
     ·rename_i hall
      simp only[Option.some.injEq,Prod.mk.injEq]at hx;obtain⟨rfl,rfl⟩:=hx
      obtain⟨st,e1,r1⟩:=pureVs_sound (ρ:=ρ) (w:=w) (parts.map (·.2)) h (fun j=>(rp.getD j default).2) xs h1 hxs H fun j c hj=>by
       simp only[List.getElem?_map,Option.map_eq_some_iff]at hj
       obtain⟨p,hpj,rfl⟩:=hj
       obtain⟨u,hu1,hu2⟩:=hp j p hpj
       simpa[List.getD,hu1]using hu2
      simp only[List.length_map]at e1
      have hcells:=allSize_spec hall
      have hxlen:xs.length=len:=by omega
      have hrp: ∀ (j:Nat) (p:Nat × Value),rp[j]? =some p→ ∃y,xs[j]? =some y∧p.1=0+j∧Rep (Mut X ρ h1) w p.2 y:=fun j p hj=>by
       have hjlt:=lt_of_getElem? hj
       have hj2:j<parts.length:=by omega
       have hj3:j<xs.length:=by omega
       obtain⟨u,hu1,_⟩:=hp j parts[j] (by simp[hj2])
       rw[hj]at hu1
       simp only[Option.some.injEq]at hu1
       refine⟨xs[j],by simp[hj3], ?_, ?_⟩
       ·rw[hu1]
        exact inOrder_spec c4 j parts[j] (by simp[hj2])
       ·have:=r1 j xs[j] (by simp[hj3])
        simpa[List.getD,hj]using this
      have hsize: ∀ (z:Array Value),((Array.range (len*sz)).map (z[·% z.size]!)).size=len*sz:=fun z=>by simp
      obtain⟨us',f1,f2,_,f4⟩:=fill_row sz rp 0 ((Array.range (len*sz)).map ((if len*sz=0 then #[] else z.cells)[·% (if len*sz=0 then #[] else z.cells).size]!)) (fun j p hj=>by
       obtain⟨y,hy,hi,hr⟩:=hrp j p hj
       exact⟨hi,by rw[hr.cells.1,hcells y (List.mem_of_getElem? hy)]⟩) (by rw[hsize,hl,c2,Nat.zero_add];exact Nat.le_refl _)
      rw[hsize]at f2
      obtain⟨s1,s2⟩:=new_arr (w':=w) st.rel rfl rfl rfl rfl e (us:=us') (xs:=xs) (sz:=sz) (cap:=len) c1 f2 (by omega)
       (by simp only[maxLen];have:len*1≤len*sz:=Nat.mul_le_mul_left _ c1;omega) hcells
       (fun j c hj=>by
         obtain⟨y,hy1,hy2⟩:=flat_inv hcells c1 hj
         have hlt:=lt_of_getElem? hy1
         have hrj:rp[j / sz]? =some rp[j / sz]:=by simp[show j / sz<rp.length by omega]
         obtain⟨y',hy',_,hr⟩:=hrp _ _ hrj
         rw[hy1]at hy';cases hy'
         obtain⟨u,hu1,hu2,hu3⟩:=hr.cells.2 _ c hy2
         refine⟨u, ?_,hu2,hu3⟩
         have:=f4 _ _ _ u hrj hu1
         rwa [Nat.zero_add,Nat.mul_comm,Nat.div_add_mod]at this)
      rw[hxlen]at s2
      refine⟨_,_,_, ?_,st.trans H s1,s2⟩
      have hnot: ¬ (2 ^ 24<len*sz):=by omega
      by_cases h0:len*sz=0
      ·simp only[h0,if_true]at f1
       simp only[Instr.buildSlice,Sem.run_bind,run_underlying hs,Result.andThen_ok,sizeOf_run hsz,h0]
       rw[if_neg (by omega),if_pos trivial]
       simp only[Sem.run_bind,Sem.run_pure,Result.andThen_ok]
       rw[f1]
       rfl
      ·simp only[h0,if_false]at f1
       simp only[Instr.buildSlice,Sem.run_bind,run_underlying hs,Result.andThen_ok,sizeOf_run hsz]
       rw[if_neg (by omega),if_neg h0]
       simp only[Sem.run_bind,zeroValue_run hz,Sem.run_pure,Result.andThen_ok]
       rw[f1]
       rfl
     ·cases hx
    ·cases hx
   ·cases hx
  ·cases hx
 ·cases hx
/-! ### append -/
theorem bytes_cells (s:ByteArray):flat (s.data.toList.map byteD)=s.data.toList.map byteD:=flat_one fun y hy=>by simp at hy;obtain⟨b,_,rfl⟩:=hy;rfl
theorem source_sound {t:TypeId} {A:V} {ys:List D} {v:Value} {size:Nat} (hx:source? P h t A=some ys) (H:HRel X ρ h w) (hv:VRel X ρ h w v A) (hall: ∀y∈ys,y.cells.length=size):
 ∃news:List Value,(∃d,P.underlying t=some d∧ ∀k,d≠ .int k)∧(∀w0:World,(Builtin.lenOf v).run P w0= .ok ys.length w0)∧
  (∀w0:World,(∀a,w0.cell? a=w.cell? a)→(Builtin.firstCells size ys.length v).run P w0= .ok news.toArray w0)∧news.length=ys.length*size∧
  ∀ (j:Nat) (c:D),(flat ys)[j]? =some c→ ∃u,news[j]? =some u∧Rep (Mut X ρ h) w u c∧c.isCell=true:=by
 unfold source? at hx
 split at hx
 ·rename_i s hs
  cases hv
  simp only[Option.some.injEq]at hx;subst hx
  have hsz:(s.data.toList.map byteD).length=s.size:=by simp
  refine⟨s.data.toList.map fun b=> .int .u8 b.toNat,⟨_,hs,fun k=>by simp⟩,fun w0=>by simp[Builtin.lenOf],fun w0 _=> ?_, ?_,fun j c hj=> ?_⟩
  ·simp only[Builtin.firstCells,hsz,Sem.run_pure]
   congr 1
   apply Array.ext'
   simp
  ·rw[List.length_map]
   rcases Nat.eq_zero_or_pos s.size with e | e
   ·simp[e]
   ·obtain⟨y,hy⟩:=List.exists_mem_of_length_pos (l:=s.data.toList.map byteD) (by rw[hsz];exact e)
    have h1:=hall y hy
    simp only[List.mem_map]at hy
    obtain⟨b,_,rfl⟩:=hy
    simp only[byteD,D.cells,List.length_cons,List.length_nil]at h1
    rw[← h1]
    simp
  ·rw[bytes_cells]at hj
   simp only[List.getElem?_map,Option.map_eq_some_iff]at hj ⊢
   obtain⟨b,hb,rfl⟩:=hj
   exact⟨_,⟨b,hb,rfl⟩,.int _ _,rfl⟩
 ·rename_i e hs
  obtain⟨a,cap,rfl,hc⟩:=elems_sound hx H hv
  rcases hc with rfl | ⟨b,o,sz,rfl,h1,h2⟩
  ·refine⟨[],⟨_,hs,fun k=>by simp⟩,fun w0=>by simp[Builtin.lenOf],fun w0 _=> ?_,by simp,fun j c hj=>by simp[flat]at hj⟩
   cases a with
   |none=>simp[Builtin.firstCells]
   |some a=>simpa using run_firstCells_some (P:=P) w0 size 0 a 0 cap [] (by simp) (by simp)
  ·have hflen:=flat_length hall
   have hval: ∀j,j<(flat ys).length→ ∃u,w.cell? ⟨b,o+j,none⟩=some u:=fun j hj=>by
    obtain⟨u,hu,_⟩:=h2 j (flat ys)[j] (by simp[hj])
    exact⟨u,hu⟩
   let news:List Value:=(List.range (flat ys).length).map fun j=>(w.cell? ⟨b,o+j,none⟩).getD undef
   have hn: ∀ (j:Nat) (u:Value),news[j]? =some u→w.cell? ⟨b,o+j,none⟩=some u:=fun j u hj=>by
    simp only[news,List.getElem?_map,Option.map_eq_some_iff]at hj
    obtain⟨i,hi,rfl⟩:=hj
    have hlt:=lt_of_getElem? hi
    simp only[List.length_range]at hlt
    rw[List.getElem?_range hlt,Option.some.injEq]at hi
    subst hi
    obtain⟨u,hu⟩:=hval j hlt
    simp[hu]
   refine⟨news,⟨_,hs,fun k=>by simp⟩,fun w0=>by simp[Builtin.lenOf],fun w0 hw=> ?_,by simp[news,hflen],fun j c hj=> ?_⟩
   ·exact run_firstCells_some (P:=P) w0 size ys.length ⟨b,o,none⟩ ys.length cap news (by simp[news,hflen]) fun j u hj=>by
     rw[Addr.add_lit,hw];exact hn j u hj
   ·obtain⟨u,hu,h3,h4⟩:=h2 j c hj
    refine⟨u, ?_,h3,h4⟩
    simp[news,List.getElem?_range (lt_of_getElem? hj),hu]
 ·cases hx
end
end Go.Am
namespace Go.Am
section
variable {X:Nat→Nat→Prop} {ρ ρ' ρ'':Places} {h h' h'':List Obj} {w w' w'':World} {P:Program}
theorem run_append_fits {ts tx e:TypeId} {i:TypeInfo} {ty:TypeId} {base:Option Addr} {n cap m:Nat} {v:Value} {news:List Value} (ht:P.underlying ts=some (.slice e)) (hi:P.info? e=some i)
 (hx: ∃d,P.underlying tx=some d∧ ∀k,d≠ .int k) (hlen: ∀w0:World,(Builtin.lenOf v).run P w0= .ok m w0) (hfirst:(Builtin.firstCells i.size m v).run P w= .ok news.toArray w) (hle:n+m≤cap)
 (hst: ∀a,base=some a→(storeCells (a.add (n*i.size)) news).run P w= .ok () w') (hnone:base=none→w'=w):
 (Builtin.append_ #[ts,tx] ty #[.slice base n cap,v]).run P w= .ok (.slice base (n+m) cap) w':=by
 obtain⟨d,hd,hni⟩:=hx
 cases base with
 |none=>
  have:=hnone rfl
  subst this
  simp[Builtin.append_,run_underlying ht,run_underlying hd,sizeOf,typeInfo,hi,hlen,hle,hfirst]
 |some a=>
  have:=hst a rfl
  simp[Builtin.append_,run_underlying ht,run_underlying hd,sizeOf,typeInfo,hi,hlen,hle,hfirst,this]
theorem run_append_grows {ts tx e:TypeId} {i:TypeInfo} {z:Value} {ty:TypeId} {base:Option Addr} {n cap m:Nat} {v:Value} {olds news:List Value} (ht:P.underlying ts=some (.slice e)) (hi:P.info? e=some i) (hz0:i.zero=some z)
 (hx: ∃d,P.underlying tx=some d∧ ∀k,d≠ .int k) (hlen: ∀w0:World,(Builtin.lenOf v).run P w0= .ok m w0) (hfirst:(Builtin.firstCells i.size m v).run P w.drew= .ok news.toArray w.drew)
 (hold:(Builtin.firstCells i.size n (.slice base n cap)).run P w.drew= .ok olds.toArray w.drew) (hgt:cap<n+m) (hbd:n+m<2147483648) (hby:i.bytes≤65536):
 (Builtin.append_ #[ts,tx] ty #[.slice base n cap,v]).run P w=
   .ok (.slice (some ⟨w.heap.size,0,none⟩) (n+m) (grownCap w (n+m) cap e)) (w.drew.alloc (.cells (olds.toArray++news.toArray++Builtin.zeroCells z.cells (grownCap w (n+m) cap e - (n+m))) e)):=by
 obtain⟨d,hd,hni⟩:=hx
 have h1: ¬ (n+m≤cap):=by omega
 have h2: ¬ (9223372036854775807<((n:Int)+(m:Int))):=by omega
 have hfit:Builtin.nextslicecap (n+m) cap*i.bytes≤281474976710656:=growslice_fits hgt (by
  have:(n+m)*i.bytes≤2147483648*65536:=Nat.mul_le_mul (by omega) hby
  omega)
 have h3: ¬ (281474976710656<Builtin.nextslicecap (n+m) cap*i.bytes):=by omega
 simp[Builtin.append_,run_underlying ht,run_underlying hd,sizeOf,typeInfo,zeroValue,hi,hz0,hlen,h1,h2,h3,Question.forced,hfirst,hold,newRow,grownCap]
 congr 2
 apply Array.ext'
 simp[List.append_assoc]
theorem setCells_heap (b:Nat): ∀ (vs:List Value) (o:Nat) (w:World) (cur:Array Value) (e:TypeId) (fz:Nat × Nat),w.heap[b]? =some (.cells cur e fz)→o+vs.length≤cur.size→
 ∃cur',(w.setCells b o vs).heap[b]? =some (.cells cur' e fz)∧cur'.toList=putCells cur.toList o vs
 |[],o,w,cur,e,fz,hb,_=>⟨cur,hb,by simp[putCells]⟩
 |v::vs,o,w,cur,e,fz,hb,hle=>by
  simp only[List.length_cons]at hle
  have hb1:(w.setCell ⟨b,o,none⟩ v).heap[b]? =some (.cells (cur.setIfInBounds o v) e fz):=by
   simp[World.setCell,Array.getElem?_modify,hb]
  obtain⟨cur',e1,e2⟩:=setCells_heap b vs (o+1) _ _ e fz hb1 (by simp;omega)
  refine⟨cur',e1, ?_⟩
  rw[e2]
  apply List.ext_getElem?
  intro i
  rw[putCells_get (by simp;omega),putCells_get (by simp;omega)]
  simp only[List.length_cons,Array.toList_setIfInBounds]
  rcases Nat.lt_trichotomy i o with h1 | h1 | h1
  ·rw[if_neg (by omega),if_neg (by omega),List.getElem?_set_ne (by omega)]
  ·subst h1
   rw[if_neg (by omega),if_pos (by omega),List.getElem?_set_self (by simp;omega)]
   simp
  ·by_cases h2:i<o+(vs.length+1)
   ·rw[if_pos (by omega),if_pos (by omega),show i - o=(i - (o+1))+1 by omega,List.getElem?_cons_succ]
   ·rw[if_neg (by omega),if_neg (by omega),List.getElem?_set_ne (by omega)]
theorem setCells_other (b:Nat): ∀ (vs:List Value) (o:Nat) (w:World) (k:Nat),k≠b→(w.setCells b o vs).heap[k]? =w.heap[k]?
 |[],_,_,_,_=>rfl
 |v::vs,o,w,k,hk=>by
  rw[World.setCells,setCells_other b vs (o+1) _ k hk]
  simp only[World.setCell,Array.getElem?_modify]
  rw[if_neg (by simpa using fun e=>hk e.symm)]
theorem setCells_size (b:Nat): ∀ (vs:List Value) (o:Nat) (w:World),(w.setCells b o vs).heap.size=w.heap.size
 |[],_,_=>rfl
 |v::vs,o,w=>by rw[World.setCells,setCells_size b vs];simp
theorem setCells_rest (b:Nat): ∀ (vs:List Value) (o:Nat) (w:World),(w.setCells b o vs).os=w.os∧(w.setCells b o vs).tape=w.tape∧(w.setCells b o vs).output=w.output
 |[],_,_=>⟨rfl,rfl,rfl⟩
 |v::vs,o,w=>by rw[World.setCells];exact setCells_rest b vs (o+1) _
theorem run_put {b o:Nat} {vs:List Value} {cur:Array Value} {e:TypeId} {fz:Nat × Nat} (hb:w.heap[b]? =some (.cells cur e fz)) (hle:o+vs.length≤cur.size) (hu:Unfrozen w b cur.size) (h1: ∀v∈vs,v.oneCell'=true):
 (storeCells ⟨b,o,none⟩ vs).run P w= .ok () (w.setCells b o vs):=by
 have:=run_storeCells_cells (P:=P) b o vs 0 w (fun j hj=>by
  rw[cell_of_heap hb,Array.getElem?_eq_getElem (by omega)];rfl) (fun j hj=>hu.get _ (by omega)) h1
 simpa using this
theorem unfrozen_setCells {b o n:Nat} {vs:List Value} (hu:Unfrozen w b n):Unfrozen (w.setCells b o vs) b n:=by
 have key: ∀ (vs:List Value) (o:Nat) (w:World) (cs:Array Value) (t:TypeId) (fz:Nat × Nat),(w.setCells b o vs).heap[b]? =some (.cells cs t fz)→ ∃cs0,w.heap[b]? =some (.cells cs0 t fz):=by
  intro vs
  induction vs with
  |nil=>intro o w cs t fz he;exact⟨cs,he⟩
  |cons v r ih=>
   intro o w cs t fz he
   rw[World.setCells]at he
   obtain⟨cs0,h0⟩:=ih _ _ _ _ _ he
   simp only[World.setCell,Array.getElem?_modify,if_true,Option.map_eq_some_iff]at h0
   obtain⟨ob,h1,h2⟩:=h0
   cases ob with
   |cells a b' c=>simp only at h2;cases h2;exact⟨_,h1⟩
   |_=>simp only at h2;cases h2
 intro cs t fz he
 obtain⟨cs0,h0⟩:=key _ _ _ _ _ _ he
 exact hu _ _ _ h0
def OwnCells (X:Nat→Nat→Prop) (ρ:Places) (h:List Obj) (w:World) (us:Array Value) (xs:List D):Prop:=
 ∀ (j:Nat) (x:D),(flat xs)[j]? =some x→ ∃u,us[j]? =some u∧Rep (Mut X ρ h) w u x∧x.isCell=true
theorem own_append {olds news:List Value} {rest:Array Value} {xs ys:List D} {sz:Nat} (hx: ∀x∈xs,x.cells.length=sz) (hol:olds.length=xs.length*sz)
 (ho: ∀ (j:Nat) (x:D),(flat xs)[j]? =some x→ ∃u,olds[j]? =some u∧Rep (Mut X ρ h) w u x∧x.isCell=true)
 (hn: ∀ (j:Nat) (x:D),(flat ys)[j]? =some x→ ∃u,news[j]? =some u∧Rep (Mut X ρ h) w u x∧x.isCell=true):
 OwnCells X ρ h w (olds.toArray++news.toArray++rest) (xs++ys):=fun j x hj=>by
 have hfl:=flat_length hx
 rw[flat_append]at hj
 rw[Array.append_assoc]
 rcases Nat.lt_or_ge j (flat xs).length with hlt | hge
 ·rw[List.getElem?_append_left hlt]at hj
  obtain⟨u,h1,h2,h3⟩:=ho j x hj
  refine⟨u, ?_,h2,h3⟩
  rw[Array.getElem?_append_left (by simp;omega)]
  simpa using h1
 ·rw[List.getElem?_append_right hge]at hj
  obtain⟨u,h1,h2,h3⟩:=hn _ x hj
  refine⟨u, ?_,h2,h3⟩
  have hl:=lt_of_getElem? h1
  rw[Array.getElem?_append_right (by simp;omega),Array.getElem?_append_left (by simp;omega)]
  simp only[List.size_toArray,hol,← hfl]
  simpa using h1
theorem appendV_sound {ts tx:TypeId} {S Y x:V} {ty:TypeId} {s v:Value} (hx:appendV P h ts tx S Y=some (x,h')) (H:HRel X ρ h w) (hs:VRel X ρ h w s S) (hv:VRel X ρ h w v Y):
 ∃u ρ' w',(Builtin.append_ #[ts,tx] ty #[s,v]).run P w= .ok u w'∧Stp X ρ h w ρ' h' w'∧VRel X ρ' h' w' u x:=by
 unfold appendV at hx
 split at hx
 ·rename_i e ht
  split at hx
  ·rename_i i ys hi hsrc
   split at hx
   ·rename_i hcond
    obtain⟨hz,hsz,hby⟩:=hcond
    simp only[Option.map_eq_some_iff]at hz
    obtain⟨z,hz,hzsz⟩:=hz
    have hzc: ∀k,(Builtin.zeroCells z.cells k).size=k*i.size:=fun k=>by rw[size_zeroCells,hzsz]
    split at hx
    · -- onto nil
      split at hx
      ·rename_i hc
       obtain⟨hlt,hall⟩:=hc
       simp only[Option.some.injEq,Prod.mk.injEq]at hx;obtain⟨rfl,rfl⟩:=hx
       have hcells:=allSize_spec hall
       have hs':s= .slice none 0 0:=hs
       subst hs'
       obtain⟨news,k1,k2,k3,k4,k5⟩:=source_sound hsrc H hv hcells
       rcases Nat.eq_zero_or_pos ys.length with h0 | h0
       ·have:ys=[]:=List.eq_nil_of_length_eq_zero h0
        subst this
        obtain⟨n1,n2⟩:=new_nil H i.size
        exact⟨.slice none 0 0,_,w,run_append_fits ht hi k1 k2 (k3 w fun _=>rfl) (by simp) (fun a e=>by cases e) (fun _=>rfl),n1,n2⟩
       ·have hr:=run_append_grows (P:=P) (w:=w) (ty:=ty) (base:=none) (n:=0) (cap:=0) (m:=ys.length) (v:=v) (olds:=[]) (news:=news) ht hi hz k1 k2 (k3 w.drew fun _=>rfl) (by simp[Builtin.firstCells]) (by omega) (by omega) hby
        simp only[Nat.zero_add]at hr
        have hg:=grownCap_ge w ys.length 0 e
        have hgm:=grownCap_le_maxLen w ys.length 0 e (by simp only[maxLen];omega)
        have hown:=own_append (ρ:=ρ) (h:=h) (w:=w) (olds:=[]) (news:=news) (rest:=Builtin.zeroCells z.cells (grownCap w ys.length 0 e - ys.length)) (xs:=[]) (ys:=ys) (sz:=i.size) (by simp) (by simp) (fun j x hj=>by simp[flat]at hj) k5
        obtain⟨n1,n2⟩:=new_arr (w':=w.drew) H rfl rfl rfl rfl e (us:=([]:List Value).toArray++news.toArray++Builtin.zeroCells z.cells (grownCap w ys.length 0 e - ys.length)) (xs:=ys) (sz:=i.size) (cap:=grownCap w ys.length 0 e) hsz
         (by simp only[Array.size_append,List.size_toArray,hzc,k4,List.length_nil,Nat.zero_add,← Nat.add_mul];congr 1;omega) hg hgm hcells hown
        exact⟨_,_,_,hr,n1,n2⟩
      ·cases hx
    ·rename_i id n
     split at hx
     ·rename_i sz xs wm ho
      split at hx
      ·rename_i hc
       obtain⟨rfl,rfl,hbd,hall⟩:=hc
       simp only[Option.some.injEq,Prod.mk.injEq]at hx;obtain⟨rfl,rfl⟩:=hx
       have hycells:=allSize_spec hall
       obtain⟨news,k1,k2,k3,k4,k5⟩:=source_sound hsrc H hv hycells
       obtain⟨_,sz2,xs2,wm2,r,q1,q2,_,q4⟩:=hs
       rw[ho]at q1;cases q1
       have hav:=q4 rfl
       obtain⟨r',q5,q6⟩:=H.obj id _ ho
       rw[q2]at q5;cases q5
       obtain⟨hwm,q7⟩:=q6
       -- what the block holds
       obtain⟨base,cap,olds,rfl,hol,hlc,hcapm,hxc,hholds,hownold⟩: ∃ (base:Option Addr) (cap:Nat) (olds:List Value),s= .slice base xs.length cap∧olds.length=xs.length*i.size∧xs.length≤cap∧cap≤maxLen∧
        (∀x∈xs,x.cells.length=i.size)∧(Builtin.firstCells i.size xs.length (.slice base xs.length cap)).run P w.drew= .ok olds.toArray w.drew∧
        ∀ (j:Nat) (x:D),(flat xs)[j]? =some x→ ∃u,olds[j]? =some u∧Rep (Mut X ρ h) w u x∧x.isCell=true:=by
        cases r with
        |none=>
         subst q7
         obtain⟨_,a,rfl⟩:=hav
         refine⟨a,0,[],rfl,by simp,Nat.le_refl _,Nat.zero_le _,by simp, ?_,fun j x hj=>by simp[flat]at hj⟩
         cases a with
         |none=>simp[Builtin.firstCells]
         |some a=>simpa using run_firstCells_some (P:=P) w.drew i.size 0 a 0 0 [] (by simp) (by simp)
        |some p=>
         obtain⟨b,cap⟩:=p
         obtain⟨cur,ce,fz,m1,m2,m3,m4,m5,m6,m7,m8⟩:=q7
         simp only[ArrVal]at hav
         have hle:xs.length*i.size≤cur.size:=by rw[m2];exact Nat.mul_le_mul_right _ m3
         refine⟨_,cap,cur.toList.take (xs.length*i.size),hav,by simp;omega,m3,m4,m6, ?_,fun j x hj=> ?_⟩
         ·exact run_firstCells_some (P:=P) w.drew i.size xs.length ⟨b,0,none⟩ xs.length cap _ (by simp;omega) fun j u hj=>by
           rw[Addr.add_lit,World.cell?_drew,cell_of_heap m1,Nat.zero_add]
           rw[List.getElem?_take]at hj
           split at hj
           ·simpa using hj
           ·cases hj
         ·obtain⟨u,e1,e2,e3⟩:=m8 j x hj
          have hjl:=lt_of_getElem? hj
          rw[flat_length m6]at hjl
          exact⟨u,by rw[List.getElem?_take,if_pos hjl];simpa using e1,e2,e3⟩
       have hxyc: ∀x∈xs++ys,x.cells.length=i.size:=fun x hx=>by
        rcases List.mem_append.1 hx with hx | hx
        ·exact hxc x hx
        ·exact hycells x hx
       by_cases hroom:xs.length+ys.length≤cap
       · -- in place
         cases r with
         |none=>
          subst q7
          obtain⟨_,a,hav⟩:=hav
          simp only[Value.slice.injEq]at hav
          obtain⟨rfl,_,rfl⟩:=hav
          simp only[List.length_nil,Nat.zero_add,Nat.le_zero_eq]at hroom
          have:ys=[]:=List.eq_nil_of_length_eq_zero hroom
          subst this
          have hnews:news=[]:=List.eq_nil_of_length_eq_zero (by simpa using k4)
          subst hnews
          refine⟨.slice base 0 0,ρ,w,run_append_fits (n:=0) ht hi k1 k2 (k3 w fun _=>rfl) (by simp) (fun a e=>rfl) (fun _=>rfl), ?_, ?_⟩
          ·rw[List.append_nil,set_self ho];exact Stp.refl H
          ·rw[List.append_nil,set_self ho]
           exact⟨⟨_,_,_,rfl⟩,_,_,_,none,ho,q2,Nat.le_refl _,fun _=>⟨rfl,base,rfl⟩⟩
         |some p=>
          obtain⟨b,cap'⟩:=p
          obtain⟨cur,ce,fz,m1,m2,m3,m4,m5,m6,m7,m8⟩:=q7
          simp only[ArrVal,Value.slice.injEq]at hav
          obtain⟨rfl,_,rfl⟩:=hav
          have hnl:xs.length*i.size+news.length≤cur.size:=by
           rw[k4,m2,← Nat.add_mul];exact Nat.mul_le_mul_right _ hroom
          have hone: ∀u∈news,u.oneCell'=true:=fun u hu=>by
           obtain⟨j,hj⟩:=List.getElem?_of_mem hu
           have hjl:=lt_of_getElem? hj
           have hfl:=flat_length hycells
           obtain⟨u',e1,e2,e3⟩:=k5 j (flat ys)[j] (by simp[show j<(flat ys).length by omega])
           rw[hj]at e1;cases e1
           exact e2.one e3
          have hst:=run_put (P:=P) (o:=xs.length*i.size) (vs:=news) m1 hnl m7 hone
          obtain⟨cur',c1,c2⟩:=setCells_heap b news (xs.length*i.size) w cur ce fz m1 hnl
          have hcur':cur'.size=cur.size:=by
           have:=congrArg List.length c2
           rw[putCells_length (by simpa using hnl)]at this
           simpa using this
          have hget: ∀j,cur'[j]? =if xs.length*i.size≤j∧j<xs.length*i.size+news.length then news[j - xs.length*i.size]? else cur[j]? :=fun j=>by
           have:cur'[j]? =cur'.toList[j]? :=by simp
           rw[this,c2,putCells_get (by simpa using hnl)]
           simp
          obtain⟨t1,t2,t3⟩:=setCells_rest b news (xs.length*i.size) w
          have hstep:=step_set (w':=w.setCells b (xs.length*i.size) news) (r':=some (b,cap)) (o':= .arr i.size (xs++ys) wm) H ho q2 t1 t2 t3 (by rw[setCells_size];exact Nat.le_refl _)
           (fun k _ hk=>setCells_other b news _ w k fun e=>hk cap (by rw[e])) (.inl rfl)
           (fun j u b' c' hbc hmu hcell=>by
             simp only[Option.some.injEq,Prod.mk.injEq]at hbc
             obtain⟨rfl,rfl⟩:=hbc
             simp only[Obj.mutAt,Nat.not_le]at hmu
             rw[cell_of_heap c1,hget,if_neg (by have:=Nat.mul_le_mul_right i.size hwm;omega)]
             rwa [cell_of_heap m1]at hcell)
           (fun _ j hj=>hj) ⟨rfl,by simp,fun _=>rfl⟩
           (fun hf he=>⟨by simp;omega,cur',ce,fz,c1,by rw[hcur',m2],by simpa using hroom,m4,m5,hxyc,by rw[hcur'];exact unfrozen_setCells m7,fun j x hj=>by
             have hfl:=flat_length m6
             rw[flat_append]at hj
             rw[hget]
             rcases Nat.lt_or_ge j (flat xs).length with hlt | hge
             ·rw[List.getElem?_append_left hlt]at hj
              obtain⟨u,e1,e2,e3⟩:=m8 j x hj
              exact⟨u,by rw[if_neg (by omega)];exact e1,e2.mono hf.imm,e3⟩
             ·rw[List.getElem?_append_right hge]at hj
              obtain⟨u,e1,e2,e3⟩:=k5 _ x hj
              have:=lt_of_getElem? e1
              exact⟨u,by rw[if_pos (by omega),← hfl];exact e1,e2.mono hf.imm,e3⟩⟩)
          rw[set_self q2]at hstep
          obtain⟨g1,g2,g3⟩:=hstep
          refine⟨_,ρ,_,run_append_fits ht hi k1 k2 (k3 w fun _=>rfl) hroom (fun a e=>by cases e;rw[Addr.add_lit,Nat.zero_add];exact hst) (fun e=>by cases e),⟨g1,g2,g3⟩,⟨_,_,_,rfl⟩,i.size,xs++ys,wm,some (b,cap),by
           rw[List.getElem?_set_self (lt_of_getElem? ho)],q2,by simp,fun _=>rfl⟩
       · -- it grows
         have hgt:cap<xs.length+ys.length:=by omega
         have hr:=run_append_grows (P:=P) (w:=w) (ty:=ty) (base:=base) (n:=xs.length) (cap:=cap) (m:=ys.length) (v:=v) (olds:=olds) (news:=news) ht hi hz k1 k2 (k3 w.drew fun _=>rfl) hholds hgt hbd hby
         have hg:=grownCap_ge w (xs.length+ys.length) cap e
         have hgm:=grownCap_le_maxLen w (xs.length+ys.length) cap e (by simp only[maxLen];omega)
         generalize hgc:grownCap w (xs.length+ys.length) cap e=gc at hr hg hgm
         have hown:=own_append (ρ:=ρ) (h:=h) (w:=w) (olds:=olds) (news:=news) (rest:=Builtin.zeroCells z.cells (gc - (xs.length+ys.length))) (xs:=xs) (ys:=ys) (sz:=i.size) hxc hol hownold k5
         have hus:(olds.toArray++news.toArray++Builtin.zeroCells z.cells (gc - (xs.length+ys.length))).size=gc*i.size:=by
          simp only[Array.size_append,List.size_toArray,hzc,k4,hol,← Nat.add_mul];congr 1;omega
         generalize olds.toArray++news.toArray++Builtin.zeroCells z.cells (gc - (xs.length+ys.length))=us at hr hown hus
         have hstep:=step_set (w':=w.drew.alloc (.cells us e)) (r':=some (w.heap.size,gc)) (o':= .arr i.size (xs++ys) wm) H ho q2 rfl rfl rfl (by simp)
          (fun k hk _=>hao w.drew _ k hk) (.inr ⟨gc,rfl⟩)
          (fun j u b' c' hbc _ hcell=>by
            have hb:=World.block_lt_of_cell? w ⟨b',j,none⟩ hcell
            rw[World.cell?_alloc_lt w.drew _ _ hb]
            exact hcell)
          (fun _ j hj=>hj) ⟨rfl,by simp,fun e=>by rw[List.length_append]at e;omega⟩
          (fun hf he=>⟨by simp;omega,us,e,(0,0),heap_alloc_new w.drew _,hus,by simpa using hg,hgm,hsz,hxyc,unfrozen_new (w:=w.drew) us e,fun j x hj=>by
            obtain⟨u,e1,e2,e3⟩:=hown j x hj
            exact⟨u,e1,e2.mono hf.imm,e3⟩⟩)
         obtain⟨g1,g2,g3⟩:=hstep
         refine⟨_,_,_,hr,⟨g1,g2,g3⟩,⟨_,_,_,rfl⟩,i.size,xs++ys,wm,some (w.heap.size,gc),by
          rw[List.getElem?_set_self (lt_of_getElem? ho)],by rw[List.getElem?_set_self (lt_of_getElem? q2)],by simp,fun _=>by simp[ArrVal]⟩
      ·cases hx
     ·cases hx
    ·cases hx
   ·cases hx
  ·cases hx
 ·cases hx
end
end Go.Am
namespace Go.Am
section
variable {X:Nat→Nat→Prop} {ρ ρ' ρ'':Places} {h h' h'':List Obj} {w w' w'':World} {P:Program}
theorem run_storeVar {t:TypeId} {b o:Nat} {v:Value} {cur:Array Value} {e:TypeId} {fz:Nat × Nat} (hn:sizeOf? P t=some v.cells.size) (hb:w.heap[b]? =some (.cells cur e fz)) (hle:o+v.cells.size≤cur.size)
 (hu:Unfrozen w b cur.size) (h1: ∀u∈v.cells.toList,u.oneCell'=true):(Instr.storeAt t (.pointer (some ⟨b,o,none⟩)) v).run P w= .ok () (w.setCells b o v.cells.toList):=by
 have:=run_put (P:=P) (o:=o) (vs:=v.cells.toList) hb (by simpa using hle) hu h1
 simp[Instr.storeAt,Instr.sureAddr,storeVar,sizeOf_run hn,this]
theorem storeV_sound {t:TypeId} {A Y:V} {a v:Value} (hx:storeV P h t A Y=some h') (H:HRel X ρ h w) (ha:VRel X ρ h w a A) (hv:VRel X ρ h w v Y):
 ∃w',(Instr.storeAt t a v).run P w= .ok () w'∧Stp X ρ h w ρ h' w':=by
 unfold storeV at hx
 split at hx
 ·rename_i id off
  obtain⟨ob,b,c,p1,p2,p3,rfl⟩:=ha
  split at hx
  ·rename_i cs ho
   rw[ho]at p1;cases p1
   split at hx
   ·rename_i n hn
    split at hx
    ·rename_i hc
     obtain⟨c1,c2,c3⟩:=hc
     simp only[Option.some.injEq]at hx;subst hx
     obtain⟨r,q1,q2⟩:=H.obj id _ ho
     rw[p3]at q1;cases q1
     obtain⟨b',c',cur,e,fz,e1,m1,m2,m3,m4⟩:=q2.2 (by simp)
     cases e1
     have hcell:=hv.cells c3
     have hsz:v.cells.size=n:=by rw[cells_length hv c3,c1]
     have hle:off+v.cells.toList.length≤cur.size:=by simp only[Array.length_toList];omega
     have hone: ∀u∈v.cells.toList,u.oneCell'=true:=fun u hu=>by
      obtain⟨j,hj⟩:=List.getElem?_of_mem hu
      have hjl:=lt_of_getElem? hj
      have hjl':j<Y.cells.length:=by have:=hcell.1;omega
      obtain⟨u',e1,e2,e3⟩:=hcell.2 j Y.cells[j] (by simp[hjl'])
      rw[hj]at e1;cases e1
      exact e2.one e3
     have hr:=run_storeVar (P:=P) (t:=t) (o:=off) (v:=v) (by rw[hsz,hn]) m1 (by omega) m3 hone
     obtain⟨cur',c4,c5⟩:=setCells_heap b v.cells.toList off w cur e fz m1 hle
     have hcur':cur'.size=cur.size:=by
      have:=congrArg List.length c5
      rw[putCells_length (by simpa using hle)]at this
      simpa using this
     obtain⟨t1,t2,t3⟩:=setCells_rest b v.cells.toList off w
     have hstep:=step_set (w':=w.setCells b off v.cells.toList) (r':=some (b,c)) (o':= .box (putCells cs off Y.cells)) H ho p3 t1 t2 t3 (by rw[setCells_size];exact Nat.le_refl _)
      (fun k _ hk=>setCells_other b _ _ w k fun e=>hk c (by rw[e])) (.inl rfl)
      (fun j u b' c' _ hmu _=>absurd trivial hmu) (fun _ j hj=>hj) ⟨putCells_length (by omega),rfl⟩
      (fun hf he=>⟨nofun,fun _=>⟨b,c,cur',e,fz,rfl,c4,by rw[hcur',m2,putCells_length (by omega)],by rw[hcur'];exact unfrozen_setCells m3,fun j x hj=>by
        rw[putCells_get (by omega)]at hj
        have hg:cur'[j]? =if off≤j∧j<off+Y.cells.length then v.cells.toList[j - off]? else cur[j]? :=by
         have:cur'[j]? =cur'.toList[j]? :=by simp
         rw[this,c5,putCells_get (by simpa using hle),hcell.1]
         simp
        rw[hg]
        split at hj
        ·rename_i hin
         rw[if_pos hin]
         obtain⟨u,e1,e2,e3⟩:=hcell.2 _ x hj
         exact⟨u,e1,e2.mono hf he,e3⟩
        ·rename_i hin
         rw[if_neg hin]
         obtain⟨u,e1,e2,e3⟩:=m4 _ x hj
         exact⟨u,e1,e2.mono hf he,e3⟩⟩⟩)
     rw[set_self p3]at hstep
     exact⟨_,hr,hstep.1,hstep.2.1,hstep.2.2⟩
    ·cases hx
   ·cases hx
  ·cases hx
 ·rename_i id n i off
  split at hx
  ·rename_i y h1 m hp hm
   obtain⟨st,hrep⟩:=pureV_sound hp H hv
   have ha1:=st.vrel ha
   have H1:=st.rel
   split at hx
   ·rename_i sz xs wm ho
    split at hx
    ·rename_i x hxi
     split at hx
     ·rename_i hc
      obtain⟨rfl,c2,c3,c4⟩:=hc
      obtain⟨_,sz1,xs1,wm1,r,p1,p2,_,p4⟩:=ha1
      rw[ho]at p1;cases p1
      obtain⟨b,cap,rfl,rfl⟩:=p4 rfl
      obtain⟨r,q1,q2⟩:=H1.obj id _ ho
      rw[p2]at q1;cases q1
      obtain⟨hwm,cur,e,fz,m1,m2,m3,m4,m5,m6,m7,m8⟩:=q2
      have hil:i<xs.length:=lt_of_getElem? hxi
      have hxl:=m6 x (List.mem_of_getElem? hxi)
      obtain⟨k1,k2⟩:=hrep.cells
      have hvs:v.cells.size=m:=by omega
      have hle:i*sz+off+v.cells.toList.length≤cur.size:=by
       have h2:(i+1)*sz≤cap*sz:=Nat.mul_le_mul_right _ (by omega)
       rw[Nat.add_mul]at h2
       simp only[Array.length_toList]
       omega
      have hone: ∀u∈v.cells.toList,u.oneCell'=true:=fun u hu=>by
       obtain⟨j,hj⟩:=List.getElem?_of_mem hu
       have hjl:=lt_of_getElem? hj
       simp only[Array.length_toList]at hjl
       have hjl':j<y.cells.length:=by omega
       obtain⟨u',e1,e2,e3⟩:=k2 j y.cells[j] (by simp[hjl'])
       rw[Array.getElem?_toList]at hj
       rw[hj]at e1;cases e1
       exact e2.one e3
      have hr:=run_storeVar (P:=P) (t:=t) (o:=i*sz+off) (v:=v) (by rw[hvs,hm]) m1 (by simpa using hle) m7 hone
      obtain⟨cur',c5,c6⟩:=setCells_heap b v.cells.toList (i*sz+off) w cur e fz m1 hle
      have hcur':cur'.size=cur.size:=by
       have:=congrArg List.length c6
       rw[putCells_length (by simpa using hle)]at this
       simpa using this
      obtain⟨t1,t2,t3⟩:=setCells_rest b v.cells.toList (i*sz+off) w
      have hg: ∀j,cur'[j]? =if i*sz+off≤j∧j<i*sz+off+m then v.cells[j - (i*sz+off)]? else cur[j]? :=fun j=>by
       have:cur'[j]? =cur'.toList[j]? :=by simp
       rw[this,c6,putCells_get (by simpa using hle)]
       simp[hvs]
      -- the new element
      obtain⟨x',hx',hxl',hxc',hxe⟩: ∃x':D,h'=h1.set id (.arr sz (xs.set i x') wm)∧x'.cells.length=sz∧(∀ (j:Nat) (c:D),x'.cells[j]? =some c→c.isCell=true∨x.cells[j]? =some c)∧
       ∀j,j<sz→x'.cells[j]? =if off≤j∧j<off+m then y.cells[j - off]? else x.cells[j]? :=by
       split at hx
       ·rename_i hms
        simp only[Option.some.injEq]at hx
        subst hms
        refine⟨y,hx.symm,c3,fun j c hj=> .inl ?_,fun j hj=> ?_⟩
        ·obtain⟨u,_,_,h5⟩:=k2 j c hj
         exact h5
        ·have:off=0:=by omega
         subst this
         rw[if_pos (by omega),Nat.sub_zero]
       ·simp only[Option.some.injEq]at hx
        have hpl:off+y.cells.length≤x.cells.length:=by omega
        refine⟨_,hx.symm, ?_,fun j c hj=> ?_,fun j hj=> ?_⟩
        ·simp only[D.cells]at hpl ⊢
         rw[putCells_length hpl]
         exact hxl
        ·have hj':(putCells x.cells off y.cells)[j]? =some c:=hj
         rw[putCells_get hpl]at hj'
         split at hj'
         ·obtain⟨u,_,_,h5⟩:=k2 _ c hj'
          exact .inl h5
         ·exact .inr hj'
        ·show (putCells x.cells off y.cells)[j]? =_
         rw[putCells_get hpl,c3]
      subst hx'
      have hset: ∀z∈xs.set i x',z.cells.length=sz:=fun z hz=>by
       rcases List.mem_or_eq_of_mem_set hz with h2 | h2
       ·exact m6 z h2
       ·rw[h2];exact hxl'
      have hstep:=step_set (w':=w.setCells b (i*sz+off) v.cells.toList) (r':=some (b,cap)) (o':= .arr sz (xs.set i x') wm) H1 ho p2 t1 t2 t3 (by rw[setCells_size];exact Nat.le_refl _)
       (fun k _ hk=>setCells_other b _ _ w k fun e=>hk cap (by rw[e])) (.inl rfl)
       (fun j u b' c' hbc hmu hcell=>by
         simp only[Option.some.injEq,Prod.mk.injEq]at hbc
         obtain⟨rfl,rfl⟩:=hbc
         simp only[Obj.mutAt,Nat.not_le]at hmu
         have:wm*sz≤i*sz:=Nat.mul_le_mul_right _ c2
         rw[cell_of_heap c5,hg,if_neg (by omega)]
         rwa [cell_of_heap m1]at hcell)
       (fun _ j hj=>hj) ⟨rfl,by simp,fun _=>rfl⟩
       (fun hf he=>⟨by simpa using hwm,cur',e,fz,c5,by rw[hcur',m2],by simpa using m3,m4,m5,hset,by rw[hcur'];exact unfrozen_setCells m7,fun j z hj=>by
         obtain⟨x2,e1,e2⟩:=flat_inv hset m5 hj
         have hjm:j % sz<sz:=Nat.mod_lt _ m5
         have hjd:sz*(j / sz)+j % sz=j:=Nat.div_add_mod j sz
         rw[Nat.mul_comm]at hjd
         rw[hg]
         by_cases hji:j / sz=i
         ·subst hji
          rw[List.getElem?_set_self hil]at e1
          cases e1
          rw[hxe _ hjm]at e2
          split at e2
          ·rename_i hin
           rw[if_pos (by omega),show j - (j / sz*sz+off)=j % sz - off by omega]
           obtain⟨u,f1,f2,f3⟩:=k2 _ z e2
           exact⟨u,f1,f2.mono hf.imm,f3⟩
          ·rename_i hin
           rw[if_neg (by omega)]
           obtain⟨u,f1,f2,f3⟩:=m8 _ z (flat_get m6 hxi e2)
           rw[hjd]at f1
           exact⟨u,f1,f2.mono hf.imm,f3⟩
         ·rw[List.getElem?_set_ne (fun e=>hji e.symm)]at e1
          have hne: ¬ (i*sz+off≤j∧j<i*sz+off+m):=by
           rcases Nat.lt_or_ge (j / sz) i with h2 | h2
           ·have:(j / sz+1)*sz≤i*sz:=Nat.mul_le_mul_right _ h2
            rw[Nat.add_mul]at this
            omega
           ·have:(i+1)*sz≤j / sz*sz:=Nat.mul_le_mul_right _ (by omega)
            rw[Nat.add_mul]at this
            omega
          rw[if_neg hne]
          obtain⟨u,f1,f2,f3⟩:=m8 _ z (flat_get m6 e1 e2)
          rw[hjd]at f1
          exact⟨u,f1,f2.mono hf.imm,f3⟩⟩)
      rw[set_self p2]at hstep
      exact⟨_,hr,st.trans H ⟨hstep.1,hstep.2.1,hstep.2.2⟩⟩
     ·cases hx
    ·cases hx
   ·cases hx
  ·cases hx
 ·cases hx
/-! ### conversions that make memory -/
theorem new_arr_gen (H:HRel X ρ h w) (hos:w'.os=w.os) (htape:w'.tape=w.tape) (hout:w'.output=w.output) (hsize:w.heap.size≤w'.heap.size) (hblk: ∀b,b<w.heap.size→w'.heap[b]? =w.heap[b]?)
 {us:Array Value} {xs:List D} {sz cap:Nat} {e:TypeId} {fz:Nat × Nat} (hnew:w'.heap[w.heap.size]? =some (.cells us e fz)) (hunf:Unfrozen w' w.heap.size us.size)
 (hsz:0<sz) (hus:us.size=cap*sz) (hle:xs.length≤cap) (hcap:cap≤maxLen) (hx: ∀x∈xs,x.cells.length=sz)
 (hc: ∀ (j:Nat) (x:D),(flat xs)[j]? =some x→ ∃u,us[j]? =some u∧Rep (Mut X ρ h) w u x∧x.isCell=true):
 Stp X ρ h w (ρ++[some (w.heap.size,cap)]) (h++[.arr sz xs 0]) w'∧
 VRel X (ρ++[some (w.heap.size,cap)]) (h++[.arr sz xs 0]) w' (.slice (some ⟨w.heap.size,0,none⟩) xs.length cap) (.arr h.length xs.length):=by
 obtain⟨h1,h2,h3⟩:=step_push (w':=w') H (.arr sz xs 0) (some (w.heap.size,cap)) hos htape hout hsize hblk (fun b c e=>by cases e;exact Nat.le_refl _)
  fun hf he=>⟨Nat.zero_le _,us,e,fz,hnew,hus,hle,hcap,hsz,hx,hunf,fun j x hj=>by
   obtain⟨u,k1,k2,k3⟩:=hc j x hj
   exact⟨u,k1,k2.mono hf.imm,k3⟩⟩
 refine⟨⟨h1,h2,h3⟩,⟨_,_,_,rfl⟩,sz,xs,0,some (w.heap.size,cap),by simp, ?_,Nat.le_refl _,fun _=>rfl⟩
 rw[← H.len]
 simp
theorem freeze_other (w:World) (a:Addr) (n b:Nat) (hn:n≠0) (hb:a.block≠b):(w.freeze a n).heap[b]? =w.heap[b]? :=by
 unfold World.freeze
 rw[if_neg hn]
 simp only[Array.getElem?_modify]
 rw[if_neg hb]
theorem freeze_at (w:World) (a:Addr) (n:Nat) (hn:n≠0) {us:Array Value} {e:TypeId} (hb:w.heap[a.block]? =some (.cells us e (0,0))):(w.freeze a n).heap[a.block]? =some (.cells us e (a.off,a.off+n)):=by
 unfold World.freeze
 rw[if_neg hn]
 simp only[Array.getElem?_modify]
 rw[if_pos trivial,hb]
 rfl
theorem freeze_rest (w:World) (a:Addr) (n:Nat):(w.freeze a n).os=w.os∧(w.freeze a n).tape=w.tape∧(w.freeze a n).output=w.output∧(w.freeze a n).heap.size=w.heap.size:=by
 unfold World.freeze
 split
 ·exact⟨rfl,rfl,rfl,rfl⟩
 ·exact⟨rfl,rfl,rfl,by simp⟩
theorem freeze_end (w:World) (b:Nat) {us:Array Value} {e:TypeId} {fz:Nat × Nat} (hb:w.heap[b]? =some (.cells us e fz)):
 ∃fz',(w.freeze ⟨b,us.size,none⟩ 1).heap[b]? =some (.cells us e fz')∧(Unfrozen w b us.size→Unfrozen (w.freeze ⟨b,us.size,none⟩ 1) b us.size):=by
 obtain⟨lo,hi⟩:=fz
 have hh:(w.freeze ⟨b,us.size,none⟩ 1).heap[b]? =some (.cells us e (if lo == hi then (us.size,us.size+1) else (min lo us.size,max hi (us.size+1)))):=by
  unfold World.freeze
  rw[if_neg (by omega)]
  simp only[Array.getElem?_modify]
  rw[if_pos trivial,hb]
  rfl
 refine⟨_,hh,fun hu cs t fz he=> ?_⟩
 have h1:=hu _ _ _ hb
 rw[hh]at he
 simp only[Option.some.injEq,Obj.cells.injEq]at he
 obtain⟨_,_,rfl⟩:=he
 simp only at h1
 by_cases c:lo=hi
 ·rw[if_pos (by simpa using c)]
  exact .inl (Nat.le_refl _)
 ·rw[if_neg (by simpa using c)]
  left
  simp only
  omega
theorem mark_sound {src dst e:TypeId} {id n sz wm:Nat} {xs:List D} {v:Value} (he:P.underlying e=some (.int .u8)) (hs:P.underlying src=some (.slice e)) (hsd:src=dst) (ho:h[id]? =some (.arr sz xs wm)) (hn:n=xs.length) (h0:0<n) (H:HRel X ρ h w) (hv:VRel X ρ h w v (.arr id n)):
 ∃u ρ' w',(convert src dst v).run P w= .ok u w'∧Stp X ρ h w ρ' h w'∧VRel X ρ' h w' u (.arr id n):=by
 subst hsd hn
 obtain⟨r,hr,hsl⟩:=arr_window H ho hv
 obtain⟨r',q1,q2⟩:=H.obj id _ ho
 rw[hr]at q1;cases q1
 obtain⟨b,cap,rfl⟩: ∃b cap,r=some (b,cap):=by
  cases r with
  |none=>exfalso;have:=q2.2;rw[this]at h0;simp at h0
  |some p=>exact⟨p.1,p.2,rfl⟩
 obtain⟨hwm,cur,et,fz,m1,m2,m3,m4,m5,m6,m7,m8⟩:=q2
 obtain⟨fz',f1,f2⟩:=freeze_end w b m1
 obtain⟨g1,g2,g3,g4⟩:=freeze_rest w ⟨b,cur.size,none⟩ 1
 have hstep:=step_set (w':=w.freeze ⟨b,cur.size,none⟩ 1) (r':=some (b,cap)) (o':= .arr sz xs wm) H ho hr g1 g2 g3 (by rw[g4];exact Nat.le_refl _)
  (fun k _ hk=>freeze_other w _ _ k (by omega) fun e=>hk cap (by simp only at e;rw[e])) (.inl rfl)
  (fun j u b' c' hbc _ hcell=>by
    simp only[Option.some.injEq,Prod.mk.injEq]at hbc
    obtain⟨rfl,rfl⟩:=hbc
    rw[cell_of_heap f1]
    rwa [cell_of_heap m1]at hcell)
  (fun _ j hj=>hj) ⟨rfl,Nat.le_refl _,fun _=>rfl⟩
  (fun hf _=>⟨hwm,cur,et,fz',f1,m2,m3,m4,m5,m6,f2 m7,fun j z hj=>by
    obtain⟨u,k1,k2,k3⟩:=m8 j z hj
    exact⟨u,k1,k2.mono hf.imm,k3⟩⟩)
 rw[set_self ho,set_self hr]at hstep
 refine⟨v,ρ,w.freeze ⟨b,cur.size,none⟩ 1, ?_,⟨hstep.1,hstep.2.1,hstep.2.2⟩,hv.mono hstep.2.1 hstep.2.2⟩
 obtain⟨a,c,rfl,_,_,ha⟩:=hsl
 obtain⟨b',cap',e1,rfl⟩:=ha h0
 cases e1
 have hshape:w.shape? b=some (et,cur.size):=by unfold World.shape?;rw[m1]
 simp only[convert,Sem.run_bind,run_underlying hs,Result.andThen_ok,run_underlying he,beq_self_eq_true,markStringish,run_shape,hshape,run_freeze,Sem.run_pure]
theorem runesFrom_list (s:ByteArray): ∀ (b i:Nat) (acc:Array Value),(Conv.runesFrom s b i acc).toList=acc.toList++(runesL s b i).map fun (n:Nat)=>Value.int .i32 n
 |0,i,acc=>by simp[Conv.runesFrom,runesL]
 |b+1,i,acc=>by
  simp only[Conv.runesFrom,runesL]
  split
  ·rw[runesFrom_list s b]
   simp
  ·simp
theorem runesL_length (s:ByteArray): ∀ (b i:Nat),(runesL s b i).length≤b
 |0,_=>Nat.le_refl _
 |b+1,i=>by
  simp only[runesL]
  split
  ·simp only[List.length_cons]
   have:=runesL_length s b (i+(Utf8.decode s i).2)
   omega
  ·simp
theorem convV_sound {src dst:TypeId} {A x:V} {v:Value} (hx:convV P h src dst A=some (x,h')) (H:HRel X ρ h w) (hv:VRel X ρ h w v A):
 ∃u ρ' w',(convert src dst v).run P w= .ok u w'∧Stp X ρ h w ρ' h' w'∧VRel X ρ' h' w' u x:=by
 unfold convV at hx
 split at hx
 ·rename_i e s hs hd
  cases hv
  split at hx
  ·rename_i he hsz
   split at hx
   ·rename_i hlt
    simp only[Option.some.injEq,Prod.mk.injEq]at hx;obtain⟨rfl,rfl⟩:=hx
    have hcut: ∃cap,(Question.appendCap s.size 0 e).cut (w.tape w.drawn (.appendCap s.size 0 e))=cap∧s.size≤cap∧cap≤maxLen:=
     ⟨_,rfl,grownCap_ge w s.size 0 e,grownCap_le_maxLen w s.size 0 e (by simp only[maxLen];omega)⟩
    obtain⟨cap,hcap,hc1,hc2⟩:=hcut
    generalize husd:(s.data.map fun b=>Value.int .u8 b.toNat)++Array.replicate (cap - s.size) (.int .u8 0)=us
    have hus:us.size=cap*1:=by
     have:s.data.size=s.size:=rfl
     rw[← husd]
     simp only[Array.size_append,Array.size_map,Array.size_replicate,this];omega
    have hlen:(s.data.toList.map byteD).length=s.size:=by simp
    have hone: ∀y∈s.data.toList.map byteD,y.cells.length=1:=fun y hy=>by simp at hy;obtain⟨b,_,rfl⟩:=hy;rfl
    have hcells: ∀ (j:Nat) (c:D),(flat (s.data.toList.map byteD))[j]? =some c→ ∃u,us[j]? =some u∧Rep (Mut X ρ h) w u c∧c.isCell=true:=fun j c hj=>by
     rw[bytes_cells]at hj
     have hjl:=lt_of_getElem? hj
     simp only[List.getElem?_map,Option.map_eq_some_iff]at hj
     obtain⟨b,hb,rfl⟩:=hj
     refine⟨.int .u8 b.toNat, ?_,.int _ _,rfl⟩
     rw[← husd]
     have hj2:j<s.data.size:=by simpa using hjl
     rw[Array.getElem?_append_left (by simpa using hj2)]
     simp only[Array.getElem?_map]
     have:s.data[j]? =some b:=by simpa using hb
     rw[this];rfl
    have hblk:(w.drew.alloc (.cells us e)).heap[w.heap.size]? =some (.cells us e (0,0)):=heap_alloc_new w.drew _
    have hshape:(w.drew.alloc (.cells us e)).shape? w.heap.size=some (e,us.size):=by unfold World.shape?;rw[hblk]
    obtain⟨f1,f2,f3,f4⟩:=freeze_rest (w.drew.alloc (.cells us e)) ⟨w.heap.size,us.size,none⟩ 1
    have f5:=freeze_at (w.drew.alloc (.cells us e)) ⟨w.heap.size,us.size,none⟩ 1 (by omega) hblk
    have hrun:(convert src dst (.string s)).run P w= .ok (.slice (some ⟨w.heap.size,0,none⟩) s.size cap) ((w.drew.alloc (.cells us e)).freeze ⟨w.heap.size,us.size,none⟩ 1):=by
     have hnf:(Question.appendCap s.size 0 e).forced=false:=rfl
     simp only[convert,Sem.run_bind,run_underlying hs,run_underlying hd,Result.andThen_ok,run_underlying he,Conv.stringToBytes,run_choose,hnf,Bool.false_eq_true,if_false,hcap,newRow,run_newObj,Sem.run_pure,
      markStringish,run_shape,husd]
     have hshape':World.shape? { heap:=w.heap.push (.cells us e),tape:=w.tape,drawn:=w.drawn+1,os:=w.os,output:=w.output } w.heap.size=some (e,us.size):=hshape
     rw[hshape']
     simp only[run_freeze,Result.andThen_ok]
     rfl
    obtain⟨n1,n2⟩:=new_arr_gen (w':=(w.drew.alloc (.cells us e)).freeze ⟨w.heap.size,us.size,none⟩ 1) H f1 f2 f3
     (by rw[f4];simp) (fun b hb=>by rw[freeze_other _ _ _ _ (by omega) (by simp;omega)];exact hao w.drew _ b hb)
     (us:=us) (xs:=s.data.toList.map byteD) (sz:=1) (cap:=cap) (e:=e) (fz:=(us.size,us.size+1)) f5
     (fun cs t fz he=>by
       rw[f5]at he
       cases he
       exact .inl (Nat.le_refl _)) (by omega) hus (by omega) hc2 hone hcells
    rw[hlen]at n2
    exact⟨_,_,_,hrun,n1,n2⟩
   ·cases hx
  ·rename_i he hsz
   split at hx
   ·rename_i hlt
    simp only[Option.some.injEq,Prod.mk.injEq]at hx;obtain⟨rfl,rfl⟩:=hx
    have hrl:(runesOf s).length≤s.size:=runesL_length s s.size 0
    have hel:Conv.runesFrom s s.size 0 #[]=((runesOf s).map fun (n:Nat)=>Value.int .i32 n).toArray:=by
     apply Array.ext'
     rw[runesFrom_list]
     simp[runesOf]
    generalize runesOf s=rs at hrl hel
    have hcut: ∃cap,(Question.appendCap rs.length 0 e).cut (w.tape w.drawn (.appendCap rs.length 0 e))=cap∧rs.length≤cap∧cap≤maxLen:=
     ⟨_,rfl,grownCap_ge w rs.length 0 e,grownCap_le_maxLen w rs.length 0 e (by simp only[maxLen];omega)⟩
    obtain⟨cap,hcap,hc1,hc2⟩:=hcut
    generalize husd:((rs.map fun (n:Nat)=>Value.int .i32 n).toArray)++Array.replicate (cap - rs.length) (.int .i32 0)=us
    have hus:us.size=cap*1:=by
     rw[← husd]
     simp only[Array.size_append,List.size_toArray,List.length_map,Array.size_replicate];omega
    have hlen:(rs.map fun (n:Nat)=>D.int .i32 n).length=rs.length:=by simp
    have hone: ∀y∈rs.map fun (n:Nat)=>D.int .i32 n,y.cells.length=1:=fun y hy=>by simp at hy;obtain⟨b,_,rfl⟩:=hy;rfl
    have hflat:flat (rs.map fun (n:Nat)=>D.int .i32 n)=rs.map fun (n:Nat)=>D.int .i32 n:=flat_one fun y hy=>by simp at hy;obtain⟨b,_,rfl⟩:=hy;rfl
    have hcells: ∀ (j:Nat) (c:D),(flat (rs.map fun (n:Nat)=>D.int .i32 n))[j]? =some c→ ∃u,us[j]? =some u∧Rep (Mut X ρ h) w u c∧c.isCell=true:=fun j c hj=>by
     rw[hflat]at hj
     have hjl:=lt_of_getElem? hj
     simp only[List.getElem?_map,Option.map_eq_some_iff]at hj
     obtain⟨b,hb,rfl⟩:=hj
     refine⟨.int .i32 b, ?_,.int _ _,rfl⟩
     rw[← husd,Array.getElem?_append_left (by simpa using hjl)]
     simp[hb]
    have hblk:(w.drew.alloc (.cells us e)).heap[w.heap.size]? =some (.cells us e (0,0)):=heap_alloc_new w.drew _
    have hrun:(convert src dst (.string s)).run P w= .ok (.slice (some ⟨w.heap.size,0,none⟩) rs.length cap) (w.drew.alloc (.cells us e)):=by
     have hnf:(Question.appendCap rs.length 0 e).forced=false:=rfl
     have hsz2:((rs.map fun (n:Nat)=>Value.int .i32 n).toArray).size=rs.length:=by simp
     simp only[convert,Sem.run_bind,run_underlying hs,run_underlying hd,Result.andThen_ok,run_underlying he,Conv.stringToRunes,hel,hsz2,run_choose,hnf,Bool.false_eq_true,if_false,hcap,newRow,run_newObj,Sem.run_pure,husd]
     rfl
    obtain⟨n1,n2⟩:=new_arr_gen (w':=w.drew.alloc (.cells us e)) H rfl rfl rfl (by simp) (fun b hb=>hao w.drew _ b hb)
     (us:=us) (xs:=rs.map fun (n:Nat)=>D.int .i32 n) (sz:=1) (cap:=cap) (e:=e) (fz:=(0,0)) hblk
     (fun cs t fz he=>by
       rw[hblk]at he
       cases he
       exact .inr rfl) (by omega) hus (by omega) hc2 hone hcells
    rw[hlen]at n2
    exact⟨_,_,_,hrun,n1,n2⟩
   ·cases hx
  ·cases hx
 ·rename_i e e2 id n hs hd
  split at hx
  ·rename_i he ho
   split at hx
   ·rename_i hc
    simp only[Option.some.injEq,Prod.mk.injEq]at hx;obtain⟨rfl,rfl⟩:=hx
    exact mark_sound he hs hc.1 ho hc.2.1 hc.2.2 H hv
   ·cases hx
  ·cases hx
 ·simp only[Option.map_eq_some_iff]at hx
  obtain⟨x',hx,e⟩:=hx
  simp only[Prod.mk.injEq]at e;obtain⟨rfl,rfl⟩:=e
  obtain⟨u,y,hr,rfl,hrep⟩:=readConvV_sound (P:=P) hx H hv
  exact⟨u,ρ,w,hr,Stp.refl H,hrep⟩
end
end Go.Am
namespace Go.Am
section
variable {X:Nat→Nat→Prop} {ρ ρ' ρ'':Places} {h h' h'':List Obj} {w w' w'':World} {P:Program}
theorem flat_take {xs:List D} {sz n:Nat} (hx: ∀x∈xs,x.cells.length=sz) (hn:n≤xs.length):flat (xs.take n)=(flat xs).take (n*sz)∧flat (xs.drop n)=(flat xs).drop (n*sz):=by
 have e:flat xs=flat (xs.take n)++flat (xs.drop n):=by rw[← flat_append,List.take_append_drop]
 have hl:(flat (xs.take n)).length=n*sz:=by
  rw[flat_length (sz:=sz) fun x h=>hx x (List.mem_of_mem_take h),List.length_take,Nat.min_eq_left hn]
 constructor
 ·rw[e,← hl,List.take_left'];rfl
 ·rw[e,← hl,List.drop_left'];rfl
theorem flat_put {xs ys:List D} {off sz:Nat} (hx: ∀x∈xs,x.cells.length=sz) (hy: ∀y∈ys,y.cells.length=sz) (hle:off+ys.length≤xs.length):flat (putCells xs off ys)=putCells (flat xs) (off*sz) (flat ys):=by
 unfold putCells
 rw[flat_append,flat_append,(flat_take hx (show off≤xs.length by omega)).1,(flat_take hx hle).2,flat_length hy,Nat.add_mul]
theorem put_mem {xs ys:List D} {off:Nat} {x:D} (hx:x∈putCells xs off ys):x∈xs∨x∈ys:=by
 unfold putCells at hx
 rcases List.mem_append.1 hx with h | h
 ·rcases List.mem_append.1 h with h | h
  ·exact .inl (List.mem_of_mem_take h)
  ·exact .inr h
 ·exact .inl (List.mem_of_mem_drop h)
theorem over_sound (H:HRel X ρ h w) {id sz wm off:Nat} {xs ys:List D} {r:Place} {a:Option Addr} (ho:h[id]? =some (.arr sz xs wm)) (hr:ρ[id]? =some r) (hw:wm≤off) (hle:off+ys.length≤xs.length)
 (hy: ∀y∈ys,y.cells.length=sz) (hpos:0<ys.length→ ∃b cap,r=some (b,cap)∧a=some ⟨b,off*sz,none⟩) {vs:List Value} (hvl:vs.length=ys.length*sz)
 (hvs: ∀ (j:Nat) (c:D),(flat ys)[j]? =some c→ ∃u,vs[j]? =some u∧Rep (Mut X ρ h) w u c∧c.isCell=true):
 ∃w',(∀a',a=some a'→(storeCells a' vs).run P w= .ok () w')∧(a=none→w'=w)∧Stp X ρ h w ρ (h.set id (.arr sz (putCells xs off ys) wm)) w':=by
 rcases Nat.eq_zero_or_pos ys.length with e | e
 ·have:ys=[]:=List.eq_nil_of_length_eq_zero e
  subst this
  have:vs=[]:=List.eq_nil_of_length_eq_zero (by simpa using hvl)
  subst this
  refine⟨w,fun a' _=>rfl,fun _=>rfl, ?_⟩
  have:putCells xs off []=xs:=by simp[putCells]
  rw[this,set_self ho]
  exact Stp.refl H
 ·obtain⟨b,cap,rfl,rfl⟩:=hpos e
  obtain⟨r',q1,q2⟩:=H.obj id _ ho
  rw[hr]at q1;cases q1
  obtain⟨hwm,cur,et,fz,m1,m2,m3,m4,m5,m6,m7,m8⟩:=q2
  have hfl:=flat_length hy
  have hxl:=flat_length m6
  have hend:off*sz+vs.length≤cur.size:=by
   rw[hvl,← Nat.add_mul,m2]
   exact Nat.mul_le_mul_right _ (by omega)
  have hone: ∀u∈vs,u.oneCell'=true:=fun u hu=>by
   obtain⟨j,hj⟩:=List.getElem?_of_mem hu
   have hjl:=lt_of_getElem? hj
   obtain⟨u',e1,e2,e3⟩:=hvs j (flat ys)[j] (by simp[show j<(flat ys).length by omega])
   rw[hj]at e1;cases e1
   exact e2.one e3
  have hrun:=run_put (P:=P) (o:=off*sz) (vs:=vs) m1 hend m7 hone
  obtain⟨cur',c5,c6⟩:=setCells_heap b vs (off*sz) w cur et fz m1 hend
  have hcur':cur'.size=cur.size:=by
   have:=congrArg List.length c6
   rw[putCells_length (by simpa using hend)]at this
   simpa using this
  obtain⟨t1,t2,t3⟩:=setCells_rest b vs (off*sz) w
  have hg: ∀j,cur'[j]? =if off*sz≤j∧j<off*sz+vs.length then vs[j - off*sz]? else cur[j]? :=fun j=>by
   have:cur'[j]? =cur'.toList[j]? :=by simp
   rw[this,c6,putCells_get (by simpa using hend)]
   simp
  have hset: ∀z∈putCells xs off ys,z.cells.length=sz:=fun z hz=>(put_mem hz).elim (m6 z) (hy z)
  have hplen:(putCells xs off ys).length=xs.length:=putCells_length hle
  have hstep:=step_set (w':=w.setCells b (off*sz) vs) (r':=some (b,cap)) (o':= .arr sz (putCells xs off ys) wm) H ho hr t1 t2 t3 (by rw[setCells_size];exact Nat.le_refl _)
   (fun k _ hk=>setCells_other b _ _ w k fun e=>hk cap (by rw[e])) (.inl rfl)
   (fun j u b' c' hbc hmu hcell=>by
     simp only[Option.some.injEq,Prod.mk.injEq]at hbc
     obtain⟨rfl,rfl⟩:=hbc
     simp only[Obj.mutAt,Nat.not_le]at hmu
     have:wm*sz≤off*sz:=Nat.mul_le_mul_right _ hw
     rw[cell_of_heap c5,hg,if_neg (by omega)]
     rwa [cell_of_heap m1]at hcell)
   (fun _ j hj=>hj) ⟨rfl,by rw[hplen];exact Nat.le_refl _,fun _=>rfl⟩
   (fun hf he=>⟨by rw[hplen];exact hwm,cur',et,fz,c5,by rw[hcur',m2],by rw[hplen];exact m3,m4,m5,hset,by rw[hcur'];exact unfrozen_setCells m7,fun j z hj=>by
     rw[flat_put m6 hy hle,putCells_get (by rw[hfl,hxl,← Nat.add_mul];exact Nat.mul_le_mul_right _ hle),hfl,← hvl]at hj
     rw[hg]
     split at hj
     ·rename_i hin
      rw[if_pos hin]
      obtain⟨u,f1,f2,f3⟩:=hvs _ z hj
      exact⟨u,f1,f2.mono hf.imm,f3⟩
     ·rename_i hin
      rw[if_neg hin]
      obtain⟨u,f1,f2,f3⟩:=m8 _ z hj
      exact⟨u,f1,f2.mono hf.imm,f3⟩⟩)
  rw[set_self hr]at hstep
  exact⟨_,fun a' ha=>(by cases ha;exact hrun),fun e=>(by cases e),hstep.1,hstep.2.1,hstep.2.2⟩
theorem window_sound (H:HRel X ρ h w) {A:V} {id tot off len sz wm:Nat} {xs:List D} {v:Value} (hw:window A=some (id,tot,off,len)) (ho:h[id]? =some (.arr sz xs wm)) (ht:tot=xs.length) (hv:VRel X ρ h w v A):
 ∃r,ρ[id]? =some r∧off+len≤xs.length∧SlVal r sz off len v:=by
 unfold window at hw
 split at hw
 ·simp only[Option.some.injEq,Prod.mk.injEq]at hw
  obtain⟨rfl,rfl,rfl,rfl⟩:=hw
  subst ht
  obtain⟨r,h1,h2⟩:=arr_window H ho hv
  exact⟨r,h1,by omega,h2⟩
 ·simp only[Option.some.injEq,Prod.mk.injEq]at hw
  obtain⟨rfl,rfl,rfl,rfl⟩:=hw
  obtain⟨_,sz2,xs2,wm2,r,h1,h2,h3,h4⟩:=hv
  rw[ho]at h1;cases h1
  obtain⟨hle,hs⟩:=h4 ht
  exact⟨r,h2,by omega,hs⟩
 ·cases hw
theorem copyV_sound {td:TypeId} {A B x:V} {v u:Value} {ts:Array TypeId} {ty:TypeId} {vs:Array Value} (hx:copyV P h td A B=some (x,h')) (H:HRel X ρ h w) (hv:VRel X ρ h w v A) (hu:VRel X ρ h w u B)
 (h0:ts[0]? =some td) (hv0:vs[0]? =some v) (hv1:vs[1]? =some u): ∃z w',(Builtin.copy_ ts ty vs).run P w= .ok z w'∧Stp X ρ h w ρ h' w'∧VRel X ρ h' w' z x:=by
 unfold copyV at hx
 split at hx
 ·rename_i e hs
  split at hx
  ·rename_i id tot off len ys n hwin hel hn
   split at hx
   ·rename_i sz xs wm ho
    split at hx
    ·rename_i hc
     obtain⟨rfl,hall⟩:=hc
     simp only[Option.map_eq_some_iff,Prod.mk.injEq]at hx
     obtain⟨h1,hov,rfl,rfl⟩:=hx
     unfold overV at hov
     rw[ho]at hov
     simp only at hov
     split at hov
     ·rename_i hcc
      obtain⟨c1,c2,c3,c4⟩:=hcc
      simp only[Option.some.injEq]at hov;subst hov
      obtain⟨r,hr,hle,a,c,rfl,hlc,han,hpos⟩:=window_sound H hwin ho c1 hv
      obtain⟨sa,sc,rfl,hrd⟩:=elems_sound hel H hu
      have hsz:=allSize_spec hall
      have htk: ∀y∈ys.take len,y.cells.length=sz:=fun y hy=>hsz y (List.mem_of_mem_take hy)
      have hfl:=flat_length htk
      obtain⟨news,hn1,hn2,hn3⟩: ∃news:List Value,(Builtin.firstCells sz (min ys.length len) (.slice sa ys.length sc)).run P w= .ok news.toArray w∧news.length=(ys.take len).length*sz∧
       ∀ (j:Nat) (c:D),(flat (ys.take len))[j]? =some c→ ∃u,news[j]? =some u∧Rep (Mut X ρ h) w u c∧c.isCell=true:=by
       rcases hrd with rfl | ⟨b,o,sz',rfl,e1,e2⟩
       ·refine⟨[], ?_,by simp,fun j c hj=>by simp[flat]at hj⟩
        cases sa with
        |none=>simp[Builtin.firstCells]
        |some sa=>exact run_firstCells_some (P:=P) w sz _ sa _ sc [] (by simp) (by simp)
       ·have hval: ∀j,j<(flat (ys.take len)).length→ ∃u,w.cell? ⟨b,o+j,none⟩=some u∧Rep (Mut X ρ h) w u (flat (ys.take len))[j]! ∧(flat (ys.take len))[j]!.isCell=true:=fun j hj=>by
         have hj2:(flat ys)[j]? =some (flat (ys.take len))[j]! :=by
          have hmin:ys.take len=ys.take (min len ys.length):=by rw[List.take_eq_take_min]
          rw[hmin,(flat_take hsz (Nat.min_le_right _ _)).1]at hj ⊢
          rw[List.length_take]at hj
          rw[getElem!_pos ((flat ys).take (min len ys.length*sz)) j (by rw[List.length_take];exact hj),List.getElem_take,List.getElem?_eq_getElem]
         obtain⟨u,f1,f2,f3⟩:=e2 j _ hj2
         exact⟨u,f1,f2,f3⟩
        let news:List Value:=(List.range (flat (ys.take len)).length).map fun j=>(w.cell? ⟨b,o+j,none⟩).getD undef
        have hlen:(ys.take len).length=min ys.length len:=by rw[List.length_take,Nat.min_comm]
        refine⟨news, ?_,by simp[news,hfl],fun j c hj=> ?_⟩
        ·refine run_firstCells_some (P:=P) w sz _ ⟨b,o,none⟩ _ sc news (by simp[news,hfl,hlen]) fun j u hj=> ?_
         simp only[news,List.getElem?_map,Option.map_eq_some_iff]at hj
         obtain⟨i,hi,rfl⟩:=hj
         have hlt:=lt_of_getElem? hi
         simp only[List.length_range]at hlt
         rw[List.getElem?_range hlt,Option.some.injEq]at hi
         subst hi
         obtain⟨u,hu,_⟩:=hval j hlt
         rw[Addr.add_lit,hu];rfl
        ·have hlt:=lt_of_getElem? hj
         obtain⟨u,hu,g1,g2⟩:=hval j hlt
         have hcc:(flat (ys.take len))[j]! =c:=by
          rw[getElem!_pos (flat (ys.take len)) j hlt]
          rw[List.getElem?_eq_getElem hlt]at hj
          simpa using hj
         rw[hcc]at g1 g2
         refine⟨u, ?_,g1,g2⟩
         simp[news,List.getElem?_range hlt,hu]
      have hlen:(ys.take len).length=min ys.length len:=by rw[List.length_take,Nat.min_comm]
      obtain⟨w1,k1,k2,st⟩:=over_sound (P:=P) (a:=a) H ho hr c2 (by omega) htk (fun hp=>hpos (by omega)) hn2 hn3
      refine⟨.int .i64 (min ys.length len:Nat),w1, ?_,st,.int _ _⟩
      simp only[Builtin.copy_,h0,hv0,hv1,Sem.run_bind,run_underlying hs,Result.andThen_ok,Builtin.lenOf,Sem.run_pure,sizeOf_run hn]
      rw[show Nat.min ys.length len=min ys.length len from rfl,hn1]
      simp only[Result.andThen_ok]
      cases a with
      |none=>rw[k2 rfl];simp[goInt]
      |some a=>simp[k1 a rfl,goInt]
     ·cases hov
    ·cases hx
   ·cases hx
  ·cases hx
 ·cases hx
theorem clearV_sound {t:TypeId} {A x:V} {v:Value} {ts:Array TypeId} {ty:TypeId} {vs:Array Value} (hx:clearV P h t A=some (x,h')) (H:HRel X ρ h w) (hv:VRel X ρ h w v A)
 (h0:ts[0]? =some t) (hv0:vs[0]? =some v): ∃z w',(Builtin.clear_ ts ty vs).run P w= .ok z w'∧Stp X ρ h w ρ h' w'∧VRel X ρ h' w' z x:=by
 unfold clearV at hx
 split at hx
 ·rename_i e hs
  split at hx
  ·rename_i id tot off len zd n hwin hz hn
   split at hx
   ·rename_i sz xs wm ho
    split at hx
    ·rename_i hc
     obtain⟨rfl,hzl⟩:=hc
     simp only[Option.map_eq_some_iff,Prod.mk.injEq]at hx
     obtain⟨h1,hov,rfl,rfl⟩:=hx
     unfold overV at hov
     rw[ho]at hov
     simp only at hov
     split at hov
     ·rename_i hcc
      obtain⟨c1,c2,c3,c4⟩:=hcc
      simp only[Option.some.injEq]at hov;subst hov
      obtain⟨r,hr,hle,a,c,rfl,hlc,han,hpos⟩:=window_sound H hwin ho c1 hv
      obtain⟨z,hz1,hz2⟩:=zeroD_rel hz
      have hrep:=hz2 (Mut X ρ h) w
      obtain⟨q1,q2⟩:=hrep.cells
      rw[hzl]at q1
      obtain⟨w1,k1,k2,st⟩:=over_sound (P:=P) (ys:=List.replicate len zd) (a:=a) (vs:=(Builtin.zeroCells z.cells len).toList) H ho hr c2 (by simpa using c3) (fun y hy=>by rw[List.eq_of_mem_replicate hy];exact hzl) (fun hp=>hpos (by simpa using hp))
       (by simp[Builtin.zeroCells,q1]) (fun j c hj=>by
         have hlt:=lt_of_getElem? hj
         rw[flat_length (sz:=sz) fun x hx=>by rw[List.eq_of_mem_replicate hx];exact hzl]at hlt
         simp only[List.length_replicate]at hlt
         have hcj:=flat_replicate hj
         rw[hzl]at hcj
         obtain⟨u,k1,k2,k3⟩:=q2 _ c hcj
         refine⟨u, ?_,k2,k3⟩
         simp only[Builtin.zeroCells,Array.getElem?_toList,Array.getElem?_map,q1]
         rw[Array.getElem?_range,if_pos hlt]
         simp only[Option.map_some]
         rw[getElem!_def,k1])
      refine⟨.tuple #[],w1, ?_,st,⟨#[],rfl,rfl,fun j c hj=>by simp at hj⟩⟩
      simp only[Builtin.clear_,h0,hv0,Sem.run_bind,run_underlying hs,Result.andThen_ok]
      cases a with
      |none=>rw[k2 rfl];simp
      |some a=>
       cases len with
       |zero=>
        have:w1=w:=by
         have:=k1 a rfl
         simp[Builtin.zeroCells,storeCells]at this
         exact this.symm
        rw[this];simp
       |succ len=>simp[zeroValue_run hz1,k1 a rfl]
     ·cases hov
    ·cases hx
   ·cases hx
  ·cases hx
 ·cases hx
theorem rangeOpV_sound {t:TypeId} {A x:V} {v:Value} (hx:rangeOpV P h t A=some (x,h')) (H:HRel X ρ h w) (hv:VRel X ρ h w v A):
 ∃u ρ' w',(Instr.range t v).run P w= .ok u w'∧Stp X ρ h w ρ' h' w'∧VRel X ρ' h' w' u x:=by
 unfold rangeOpV at hx
 split at hx
 ·rename_i s ht
  simp only[Option.some.injEq,Prod.mk.injEq]at hx;obtain⟨rfl,rfl⟩:=hx
  have hv':Rep (Mut X ρ h) w v (.str s):=hv
  cases hv'
  have hget:(w.alloc (.stringIter s 0)).heap[w.heap.size]? =some (.stringIter s 0):=by
   show (w.heap.push _)[w.heap.size]? =_
   simp
  obtain⟨h1,h2,h3⟩:=step_push (w':=w.alloc (.stringIter s 0)) H (.siter s 0) (some (w.heap.size,0)) rfl rfl rfl (by simp) (fun b hb=>by
   show (w.heap.push _)[b]? =_
   rw[Array.getElem?_push,if_neg (by omega)]) (fun b c e=>by cases e;exact Nat.le_refl _) fun _ _=>⟨_,_,rfl,hget⟩
  refine⟨.pointer (some ⟨w.heap.size,0,none⟩),_,_,by simp[Instr.range,run_underlying ht],⟨h1,h2,h3⟩, ?_⟩
  refine⟨.siter s 0,w.heap.size,0,by simp,rfl, ?_,rfl⟩
  rw[← H.len]
  simp
 ·rename_i k el id ht
  split at hx
  ·rename_i bs ck ho
   simp only[Option.some.injEq,Prod.mk.injEq]at hx;obtain⟨rfl,rfl⟩:=hx
   rcases (show V0 X ρ h w v (.mp id) from hv) with ⟨cs,b,c,k1,_⟩ | ⟨es',bs',ck',b,c,k1,k2,rfl⟩
   ·rw[ho]at k1;cases k1
   rw[ho]at k1
   simp only[Option.some.injEq,Obj.map.injEq]at k1
   obtain⟨rfl,rfl,rfl⟩:=k1
   obtain⟨rr,g1,g2⟩:=H.obj id _ ho
   rw[k2]at g1;cases g1
   obtain⟨b',c',en,e1,e2,e3,e4,e5⟩:=g2
   cases e1
   have hget:(getObj b).run P w= .ok (.map en ck) w:=by simp[getObj,Sem.run,e2]
   have hnew:(w.alloc (.mapIter (some b) ck #[] ck)).heap[w.heap.size]? =some (.mapIter (some b) ck #[] ck):=by
    show (w.heap.push _)[w.heap.size]? =_
    simp
   obtain⟨h1,h2,h3⟩:=step_push (w':=w.alloc (.mapIter (some b) ck #[] ck)) H (.miter id) (some (w.heap.size,0)) rfl rfl rfl (by simp) (fun b hb=>by
    show (w.heap.push _)[b]? =_
    rw[Array.getElem?_push,if_neg (by omega)]) (fun b c e=>by cases e;exact Nat.le_refl _) fun _ _=>⟨_,_,b,c,ck,ck, #[],[],bs,ck,rfl,hnew,by rw[List.getElem?_append_left (lt_of_getElem? k2)];exact k2,by rw[List.getElem?_append_left (lt_of_getElem? ho)];exact ho,Nat.le_refl _⟩
   refine⟨.pointer (some ⟨w.heap.size,0,none⟩),_,_,by simp[Instr.range,run_underlying ht,Sem.run_bind,hget],⟨h1,h2,h3⟩, ?_⟩
   refine⟨.miter id,w.heap.size,0,by simp,rfl, ?_,rfl⟩
   rw[← H.len]
   simp
  ·cases hx
 ·cases hx
theorem nextM_sound {ty:TypeId} {A x:V} {v:Value} (hx:nextM h A=some (x,h')) (H:HRel X ρ h w) (hv:VRel X ρ h w v A):
 ∃u ρ' w',(Instr.next v false ty).run P w= .ok u w'∧Stp X ρ h w ρ' h' w'∧VRel X ρ' h' w' u x:=by
 unfold nextM at hx
 split at hx
 ·rename_i id
  obtain⟨o,b,c,k1,k2,k3,rfl⟩:=hv
  split at hx
  ·rename_i m ho
   split at hx
   ·rename_i bs ck hm
    simp only[Option.some.injEq,Prod.mk.injEq]at hx;obtain⟨rfl,rfl⟩:=hx
    rw[ho]at k1;cases k1
    obtain⟨r,g1,g2⟩:=H.obj id _ ho
    rw[k3]at g1;cases g1
    obtain⟨b',c',bm,cm,since,ckk,seen,es,bs',ck',e1,e2,e3,e4,e5⟩:=g2
    cases e1
    rw[hm]at e4
    simp only[Option.some.injEq,Obj.map.injEq]at e4
    obtain⟨rfl,rfl,rfl⟩:=e4
    obtain⟨rm,m1,m2⟩:=H.obj m _ hm
    rw[e3]at m1;cases m1
    obtain⟨b2,c2,en,q1,q2,q3,q4,q5⟩:=m2
    cases q1
    have hen:en= #[]:=Array.eq_empty_of_size_eq_zero (by simpa using q3)
    subst hen
    refine⟨.tuple #[.bool false],ρ,w, ?_,Stp.refl H, ?_⟩
    ·rcases run_next_at w ty b bm since ckk seen #[] ck e2 q2 (fun x hx=>by simp at hx) e5 with ⟨_,hr⟩ | ⟨e,he,_⟩
     ·exact hr
     ·simp[leftOf]at he
    ·refine⟨#[.bool false],rfl,rfl,fun j x hj=> ?_⟩
     match j,hj with
     |0,hj=>simp at hj;subst hj;exact⟨_,rfl,.bool _⟩
     |j+1,hj=>simp at hj
   ·cases hx
  ·cases hx
 ·cases hx
theorem nextV_sound {ty:TypeId} {A x:V} {v:Value} (hx:nextV h A=some (x,h')) (H:HRel X ρ h w) (hv:VRel X ρ h w v A):
 ∃u ρ' w',(Instr.next v true ty).run P w= .ok u w'∧Stp X ρ h w ρ' h' w'∧VRel X ρ' h' w' u x:=by
 unfold nextV at hx
 split at hx
 ·rename_i id
  obtain⟨o,b,c,k1,k2,k3,rfl⟩:=hv
  split at hx
  ·rename_i s pos ho
   rw[ho]at k1;cases k1
   obtain⟨r,g1,g2⟩:=H.obj id _ ho
   rw[k3]at g1;cases g1
   obtain⟨b',c',e1,e2⟩:=g2
   cases e1
   have hget:(getObj b).run P w= .ok (.stringIter s pos) w:=by simp[getObj,Sem.run,e2]
   simp only[Option.some.injEq]at hx
   unfold iterStep at hx
   split at hx
   ·rename_i hlt
    simp only[Prod.mk.injEq]at hx;obtain⟨rfl,rfl⟩:=hx
    obtain⟨⟨cc,wd⟩,hd⟩: ∃p,Utf8.decode s pos=p:=⟨_,rfl⟩
    rw[hd]
    have hset:(setObj b (.stringIter s (pos+wd))).run P w= .ok () { w with heap:=w.heap.setIfInBounds b (.stringIter s (pos+wd)) }:=by simp[setObj,Sem.run,e2]
    have hbl:b<w.heap.size:=(Array.getElem?_eq_some_iff.1 e2).1
    have:=step_set (w':= { w with heap:=w.heap.setIfInBounds b (.stringIter s (pos+wd)) }) (r':=some (b,c)) (o':= .siter s (pos+wd)) H ho k3 rfl rfl rfl (by simp)
     (fun b2 _ hne=>by
       have:b2≠b:=fun e=>hne c (by rw[e])
       simp[Array.getElem?_setIfInBounds_ne (Ne.symm this)])
     (.inl rfl) (fun j v b2 c2 e hm=>absurd trivial hm) (fun _ j hm=>absurd trivial hm) rfl fun _ _=>⟨b,c,rfl,by simp[hbl]⟩
    have hρ:ρ.set id (some (b,c))=ρ:=by
     apply List.ext_getElem?
     intro i
     rw[List.getElem?_set]
     split
     ·rename_i e
      subst e
      rw[if_pos (lt_of_getElem? k3),k3]
     ·rfl
    rw[hρ]at this
    obtain⟨h1,h2,h3⟩:=this
    refine⟨.tuple #[.bool true,.int .i64 pos,.int .i32 cc],ρ,_, ?_,⟨h1,h2,h3⟩, ?_⟩
    ·simp only[Instr.next,Sem.run_bind,hget,Result.andThen_ok]
     rw[if_pos hlt]
     simp only[hd,Sem.run_bind,hset,Result.andThen_ok]
     rfl
    ·refine⟨#[.bool true,.int .i64 pos,.int .i32 cc],rfl,rfl,fun j x hj=> ?_⟩
     match j,hj with
     |0,hj=>simp at hj;subst hj;exact⟨_,rfl,.bool _⟩
     |1,hj=>simp at hj;subst hj;exact⟨_,rfl,.int _ _⟩
     |2,hj=>simp[hd]at hj;subst hj;exact⟨_,rfl,.int _ _⟩
     |j+3,hj=>simp at hj
   ·rename_i hlt
    simp only[Prod.mk.injEq]at hx;obtain⟨rfl,rfl⟩:=hx
    refine⟨.tuple #[.bool false],ρ,w, ?_,Stp.refl H, ?_⟩
    ·simp only[Instr.next,Sem.run_bind,hget,Result.andThen_ok]
     rw[if_neg hlt]
     rfl
    ·refine⟨#[.bool false],rfl,rfl,fun j x hj=> ?_⟩
     match j,hj with
     |0,hj=>simp at hj;subst hj;exact⟨_,rfl,.bool _⟩
     |j+1,hj=>simp at hj
  ·cases hx
 ·cases hx
/-! ### cooling -/
theorem coolCells_sound: ∀ (cs:List V) (h:List Obj) (us:Nat→Value),HRel X ρ h w→(∀ (j:Nat) (c:V),cs[j]? =some c→V1 X ρ h w (us j) c∧c.cellOk=true)→
 Stp X ρ h w ρ (coolCells h cs).2 w∧(coolCells h cs).1.length=cs.length∧ ∀ (j:Nat) (c:V),(coolCells h cs).1[j]? =some c→V1 X ρ (coolCells h cs).2 w (us j) c∧c.cellOk=true
 |[],h,us,H,_=>⟨Stp.refl H,rfl,fun j c hj=>by simp[coolCells]at hj⟩
 |c::cs,h,us,H,hc=>by
  unfold coolCells
  split
  ·rename_i x h1 hx
   have hown:c.isOwn=true:=by
    cases e:c.isOwn with
    |true=>rfl
    |false=>rw[e]at hx;simp at hx
   rw[hown,if_pos rfl]at hx
   obtain⟨s1,r1⟩:=pure1_sound hx H (hc 0 c (by simp)).1
   obtain⟨s2,e2,r2⟩:=coolCells_sound cs h1 (fun j=>us (j+1)) s1.rel fun j c hj=>⟨s1.v1 (hc (j+1) c (by simpa using hj)).1,(hc (j+1) c (by simpa using hj)).2⟩
   refine⟨s1.trans H s2,by simp[e2],fun j y hj=> ?_⟩
   cases j with
   |zero=>
    simp only[List.getElem?_cons_zero,Option.some.injEq]at hj;subst hj
    refine⟨s2.rep r1, ?_⟩
    have:=pure1_cell hx (hc 0 c (by simp)).2
    cases x <;> simp_all [V.cellOk,D.isCell]
   |succ j=>exact r2 j y (by simpa using hj)
  ·obtain⟨s2,e2,r2⟩:=coolCells_sound cs h (fun j=>us (j+1)) H fun j c hj=>hc (j+1) c (by simpa using hj)
   refine⟨s2,by simp[e2],fun j y hj=> ?_⟩
   cases j with
   |zero=>
    simp only[List.getElem?_cons_zero,Option.some.injEq]at hj;subst hj
    exact⟨s2.v1 (hc 0 c (by simp)).1,(hc 0 c (by simp)).2⟩
   |succ j=>exact r2 j y (by simpa using hj)
theorem coolCells_fixed: ∀ (cs:List V),cs.all V.fixed=true→(coolCells h cs).2=h∧(coolCells h cs).1.length=cs.length∧(coolCells h cs).1.all V.fixed=true
 |[],_=>⟨rfl,rfl,rfl⟩
 |c::cs,ha=>by
  simp only[List.all_cons,Bool.and_eq_true]at ha
  obtain⟨i1,i2,i3⟩:=coolCells_fixed cs ha.2
  cases c <;> simp only[V.fixed,Bool.false_eq_true,false_and]at ha <;> (unfold coolCells;simp only[V.isOwn,pure1,Bool.false_eq_true,if_false,if_true,ite_self,i1,i2,i3,List.length_cons,List.all_cons,V.fixed,Bool.and_self,and_self])
theorem coolAt_sound (H:HRel X ρ h w) (id:Nat):Stp X ρ h w ρ (coolAt h id) w:=by
 unfold coolAt
 split
 ·rename_i cs ho
  obtain⟨r,hr,hrel⟩:=H.obj id _ ho
  cases r with
  |none=>
   obtain⟨f1,f2,f3⟩:=coolCells_fixed (h:=h) cs (hrel.1 rfl)
   rw[f1]
   have:=step_set (w':=w) (r':=none) (o':= .box (coolCells h cs).1) H ho hr rfl rfl rfl (Nat.le_refl _) (fun _ _ _=>rfl) (.inl rfl) (fun _ _ _ _ _ _ hc=>hc) (fun _ j hj=>absurd trivial hj) ⟨f2,rfl⟩
    (fun hf he=>⟨fun _=>f3,fun hne=>absurd rfl hne⟩)
   rw[set_self hr]at this
   exact⟨this.1,this.2.1,this.2.2⟩
  |some p=>
  obtain⟨b,c,cur,e,fz,e0,k1,k2,k3,k4⟩:=hrel.2 (by simp)
  cases e0
  obtain⟨s1,e1,r1⟩:=coolCells_sound cs h (fun j=>cur.getD j undef) H fun j y hj=>by
   obtain⟨u,m1,m2,m3⟩:=k4 j y hj
   refine⟨?_,m3⟩
   rw[Array.getD_eq_getD_getElem?,m1]
   exact m2
  obtain⟨o',r',q1,q2,q3⟩:=s1.evo id _ _ (lt_of_getElem? ho) ho hr
  cases o' <;> simp only[EvoObj]at q3
  rename_i cs'
  obtain⟨q4,rfl⟩:=q3
  have:=step_set (w':=w) (r':=some (b,c)) (o':= .box (coolCells h cs).1) s1.rel q1 hr rfl rfl rfl (Nat.le_refl _) (fun _ _ _=>rfl) (.inl rfl) (fun _ _ _ _ _ _ hc=>hc) (fun _ j hj=>absurd trivial hj) ⟨by rw[e1,q4],rfl⟩
   (fun hf he=>⟨nofun,fun _=>⟨b,c,cur,e,fz,rfl,k1,by rw[k2,e1],k3,fun j y hj=>by
     have hj':j<cur.size:=by have:=lt_of_getElem? hj;omega
     obtain⟨m1,m2⟩:=r1 j y hj
     rw[Array.getD_eq_getD_getElem?,Array.getElem?_eq_getElem hj']at m1
     exact⟨cur[j],by simp[hj'],m1.mono hf he,m2⟩⟩⟩)
  rw[set_self hr]at this
  exact s1.trans H ⟨this.1,this.2.1,this.2.2⟩
 ·exact Stp.refl H
theorem coolFrom_sound: ∀ (m n:Nat) {h:List Obj},HRel X ρ h w→Stp X ρ h w ρ (coolFrom m n h) w
 |0,_,_,H=>Stp.refl H
 |m+1,n,h,H=>(coolAt_sound H n).trans H (coolFrom_sound m (n+1) (coolAt_sound H n).rel)
theorem coolV_sound {v:Value} {A:V} (H:HRel X ρ h w) (hv:VRel X ρ h w v A):Stp X ρ h w ρ (coolV h A) w:=by
 unfold coolV
 split
 ·rename_i id
  split
  ·rename_i cs ho
   split
   ·rename_i xs h1 hp
    obtain⟨r,hr,hrel⟩:=H.obj id _ ho
    have hne:r≠none:=by
     rcases hv with ⟨_,b,c,_,g2,_⟩ | ⟨es,bs,ck,b,c,g1,g2,_⟩ <;> (rw[hr]at g2;cases g2;simp)
    obtain⟨b,c,cur,e,fz,e0,k1,k2,k3,k4⟩:=hrel.2 hne
    exact (pureList_sound cs h (fun j=>cur.getD j undef) xs h1 hp H fun j y hj=>by
     obtain⟨u,m1,m2,m3⟩:=k4 j y hj
     rw[Array.getD_eq_getD_getElem?,m1]
     exact m2).1
   ·exact Stp.refl H
  ·exact Stp.refl H
 ·exact Stp.refl H
end
end Go.Am
namespace Go.Am
theorem addIds_prefix: ∀ (l acc:List Nat), ∃r,addIds acc l=acc++r
 |[],acc=>⟨[],by simp[addIds]⟩
 |i::l,acc=>by
  simp only[addIds]
  obtain⟨r,hr⟩:=addIds_prefix l (if acc.contains i then acc else acc++[i])
  rw[hr]
  split
  ·exact⟨r,rfl⟩
  ·exact⟨i::r,by simp⟩
theorem addIds_nodup: ∀ (l acc:List Nat),acc.Nodup→(addIds acc l).Nodup
 |[],_,h=>h
 |i::l,acc,h=>by
  simp only[addIds]
  refine addIds_nodup l _ ?_
  split
  ·exact h
  ·rename_i hi
   rw[List.nodup_append]
   refine⟨h,by simp,fun a ha b hb=> ?_⟩
   simp only[List.mem_singleton]at hb
   subst hb
   intro e
   subst e
   exact hi (by simpa using ha)
theorem close_prefix (h:List Obj): ∀ (fuel pos:Nat) (acc:List Nat), ∃r,close h fuel pos acc=acc++r
 |0,_,acc=>⟨[],by simp[close]⟩
 |fuel+1,pos,acc=>by
  simp only[close]
  split
  ·exact⟨[],by simp⟩
  ·rename_i i _
   obtain⟨r,hr⟩:=addIds_prefix (idsAt h i) acc
   obtain⟨r',hr'⟩:=close_prefix h fuel (pos+1) (addIds acc (idsAt h i))
   exact⟨r++r',by rw[hr',hr,List.append_assoc]⟩
theorem close_nodup (h:List Obj): ∀ (fuel pos:Nat) (acc:List Nat),acc.Nodup→(close h fuel pos acc).Nodup
 |0,_,_,hn=>hn
 |fuel+1,pos,acc,hn=>by
  simp only[close]
  split
  ·exact hn
  ·exact close_nodup h fuel _ _ (addIds_nodup _ _ hn)
theorem reach_nodup (h:List Obj) {acc:List Nat} (hn:acc.Nodup):(reach h acc).Nodup:=close_nodup h _ _ _ hn
theorem reach_range (h:List Obj) (k:Nat) (l:List Nat): ∃r,reach h (addIds (List.range k) l)=List.range k++r:=by
 obtain⟨r,hr⟩:=addIds_prefix l (List.range k)
 obtain⟨r',hr'⟩:=close_prefix h (h.length+1) 0 (addIds (List.range k) l)
 exact⟨r++r',by rw[reach,hr',hr,List.append_assoc]⟩
theorem place_get: ∀ {ids:List Nat} {i j:Nat},place ids i=some j→ids[j]? =some i
 |[],_,_,h=>by simp[place]at h
 |x::xs,i,j,h=>by
  simp only[place]at h
  split at h
  ·rename_i e
   simp only[Option.some.injEq]at h
   subst h;subst e
   rfl
  ·simp only[Option.map_eq_some_iff]at h
   obtain⟨j',hj',rfl⟩:=h
   simpa using place_get hj'
theorem place_of: ∀ {ids:List Nat} {i j:Nat},ids.Nodup→ids[j]? =some i→place ids i=some j
 |[],_,_,_,h=>by simp at h
 |x::xs,i,j,hn,h=>by
  rw[List.nodup_cons]at hn
  cases j with
  |zero=>simp at h;subst h;simp[place]
  |succ j=>
   simp only[List.getElem?_cons_succ]at h
   have hne:x≠i:=fun e=>hn.1 (e ▸ List.mem_of_getElem? h)
   simp[place,hne,place_of hn.2 h]
theorem place_none: ∀ {ids:List Nat} {i:Nat},place ids i=none→i∉ids
 |[],_,_=>by simp
 |x::xs,i,h=>by
  simp only[place]at h
  split at h
  ·cases h
  ·rename_i e
   simp only[Option.map_eq_none_iff]at h
   simp only[List.mem_cons,not_or]
   exact⟨fun e'=>e e'.symm,place_none h⟩
theorem setAll_get {α:Type}: ∀ (ids:List Nat) (os l:List α),ids.Nodup→(∀i∈ids,i<l.length)→ids.length≤os.length→
 (setAll l ids os).length=l.length∧ ∀i,(setAll l ids os)[i]? =match place ids i with | some j=>os[j]? | none=>l[i]?
 |[],os,l,_,_,_=>by cases os <;> exact⟨rfl,fun i=>rfl⟩
 |x::ids,[],l,_,_,hl=>by simp at hl
 |x::ids,o::os,l,hn,hlt,hl=>by
  rw[List.nodup_cons]at hn
  obtain⟨h1,h2⟩:=setAll_get ids os (l.set x o) hn.2 (fun i hi=>by simpa using hlt i (by simp[hi])) (by simpa using hl)
  refine⟨by simp[setAll,h1],fun i=> ?_⟩
  simp only[setAll,h2,place]
  by_cases e:x=i
  ·subst e
   have:place ids x=none:=by
    cases hp:place ids x with
    |none=>rfl
    |some j=>exact absurd (List.mem_of_getElem? (place_get hp)) hn.1
   simp[this,hlt x (by simp)]
  ·rw[if_neg e]
   cases hp:place ids i with
   |none=>simp[e]
   |some j=>simp
/-! ### renaming keeps what stands for what -/
structure RenOk (X X':Nat→Nat→Prop) (f:Nat→Option Nat) (ρ:Places) (h:List Obj) (ρ2:Places) (h2:List Obj):Prop where
 fwd: ∀ (i j:Nat),f i=some j→ ∀ (o:Obj),h[i]? =some o→ ∃o',h2[j]? =some o'∧Obj.ren f o=some o'∧ρ2[j]? =ρ[i]?
 mu: ∀b j,Mut X' ρ2 h2 b j→Mut X ρ h b j
section
variable {X X':Nat→Nat→Prop} {f:Nat→Option Nat} {ρ ρ2:Places} {h h2:List Obj} {w:World}
theorem RenOk.rep (R:RenOk X X' f ρ h ρ2 h2) {v:Value} {x:D} (hr:Rep (Mut X ρ h) w v x):Rep (Mut X' ρ2 h2) w v x:=hr.mono fun b j _ hm hc=>⟨hc,fun h'=>hm (R.mu b j h')⟩
theorem ren_isArr {o o':Obj} (hr:Obj.ren f o=some o'):o'.isArr=o.isArr:=by
 cases o with
 |box cs=>simp only[Obj.ren,Option.map_eq_some_iff]at hr;obtain⟨cs',_,rfl⟩:=hr;rfl
 |arr _ _ _=>simp only[Obj.ren,Option.some.injEq]at hr;subst hr;rfl
 |siter _ _=>simp only[Obj.ren,Option.some.injEq]at hr;subst hr;rfl
 |miter m=>simp only[Obj.ren,Option.map_eq_some_iff]at hr;obtain⟨m',_,rfl⟩:=hr;rfl
 |map _=>simp only[Obj.ren,Option.some.injEq]at hr;subst hr;rfl
theorem V0.ren (R:RenOk X X' f ρ h ρ2 h2) {v:Value} {x y:V} (hv:V0 X ρ h w v x) (hr:V.ren0 f x=some y):V0 X' ρ2 h2 w v y:=by
 cases x with
 |d x=>simp only[V.ren0,Option.some.injEq]at hr;subst hr;exact R.rep hv
 |nilS=>simp only[V.ren0,Option.some.injEq]at hr;subst hr;exact hv
 |arr id n=>
  simp only[V.ren0,Option.map_eq_some_iff]at hr
  obtain⟨i,hi,rfl⟩:=hr
  obtain⟨h1,sz,xs,wm,r,h3,h4,h5,h6⟩:=hv
  obtain⟨o',e1,e2,e3⟩:=R.fwd _ _ hi _ h3
  simp only[Obj.ren,Option.some.injEq]at e2;subst e2
  exact⟨h1,sz,xs,wm,r,e1,e3.trans h4,h5,h6⟩
 |sl id t o l=>
  simp only[V.ren0,Option.map_eq_some_iff]at hr
  obtain⟨i,hi,rfl⟩:=hr
  obtain⟨h1,sz,xs,wm,r,h3,h4,h5,h6⟩:=hv
  obtain⟨o',e1,e2,e3⟩:=R.fwd _ _ hi _ h3
  simp only[Obj.ren,Option.some.injEq]at e2;subst e2
  exact⟨h1,sz,xs,wm,r,e1,e3.trans h4,h5,h6⟩
 |emp=>simp only[V.ren0,Option.some.injEq]at hr;subst hr;exact hv
 |ptr id o=>
  simp only[V.ren0,Option.map_eq_some_iff]at hr
  obtain⟨i,hi,rfl⟩:=hr
  obtain⟨ob,b,c,h1,h3,h4,h5⟩:=hv
  obtain⟨o',e1,e2,e3⟩:=R.fwd _ _ hi _ h1
  exact⟨o',b,c,e1,(ren_isArr e2).trans h3,e3.trans h4,h5⟩
 |eptr id n i o=>
  simp only[V.ren0,Option.map_eq_some_iff]at hr
  obtain⟨j,hj,rfl⟩:=hr
  obtain⟨h1,sz,xs,wm,r,h3,h4,h5,h6⟩:=hv
  obtain⟨o',e1,e2,e3⟩:=R.fwd _ _ hj _ h3
  simp only[Obj.ren,Option.some.injEq]at e2;subst e2
  exact⟨h1,sz,xs,wm,r,e1,e3.trans h4,h5,h6⟩
 |ro cs=>
  simp only[V.ren0,Option.some.injEq]at hr;subst hr
  exact RoVal.mono (fun b j _ hm hc=>⟨hc,fun h'=>hm (R.mu b j h')⟩) hv
 |dead=>simp only[V.ren0,Option.some.injEq]at hr;subst hr;trivial
 |mp id=>
  simp only[V.ren0,Option.map_eq_some_iff]at hr
  obtain⟨i,hi,rfl⟩:=hr
  rcases hv with ⟨cs,b,c,h1,h3,h4⟩ | ⟨es,bs,ck,b,c,h1,h3,h4⟩
  ·obtain⟨o',e1,e2,e3⟩:=R.fwd _ _ hi _ h1
   simp only[Obj.ren,Option.map_eq_some_iff]at e2
   obtain⟨cs',e4,rfl⟩:=e2
   exact .inl ⟨cs',b,c,e1,e3.trans h3,by rw[(mapM_get e4).1];exact h4⟩
  ·obtain⟨o',e1,e2,e3⟩:=R.fwd _ _ hi _ h1
   simp only[Obj.ren,Option.some.injEq]at e2
   subst e2
   exact .inr ⟨es,bs,ck,b,c,e1,e3.trans h3,h4⟩
 |clo _ _=>simp[V.ren0]at hr
 |agg _=>simp[V.ren0]at hr
 |tup _=>simp[V.ren0]at hr
theorem mapM_get' {α β:Type} {f:α→Option β} {l:List α} {r:List β} (hm:l.mapM f=some r):r.length=l.length∧ ∀ (j:Nat) (a:α),l[j]? =some a→ ∃b,r[j]? =some b∧f a=some b:=by
 obtain⟨h1,h2⟩:=mapM_get hm
 refine⟨h1,fun j a hj=> ?_⟩
 have hlt:j<r.length:=by rw[h1];exact lt_of_getElem? hj
 obtain⟨a',h3,h4⟩:=h2 j r[j] (by simp[hlt])
 rw[hj]at h3;cases h3
 exact⟨_,by simp[hlt],h4⟩
theorem V1.ren (R:RenOk X X' f ρ h ρ2 h2) {v:Value} {x y:V} (hv:V1 X ρ h w v x) (hr:V.ren1 f x=some y):V1 X' ρ2 h2 w v y:=by
 have key:V0 X ρ h w v x→V.ren0 f x=some y→V1 X' ρ2 h2 w v y:=fun a b=>by
  have:=V0.ren R a b
  cases y with
  |clo _ _=>exact this.elim
  |_=>exact this
 cases x with
 |clo g caps=>
  simp only[V.ren1,Option.map_eq_some_iff]at hr
  obtain⟨caps',hc,rfl⟩:=hr
  obtain⟨us,h1,h2',h3⟩:=hv
  obtain⟨e1,e2⟩:=mapM_get hc
  refine⟨us,h1,by omega,fun j c hj=> ?_⟩
  obtain⟨a,ha,hac⟩:=e2 j c hj
  obtain⟨u,hu,hua⟩:=h3 j a ha
  exact⟨u,hu,hua.ren R hac⟩
 |d _=>exact key hv hr
 |nilS=>exact key hv hr
 |arr _ _=>exact key hv hr
 |sl _ _ _ _=>exact key hv hr
 |emp=>exact key hv hr
 |ptr _ _=>exact key hv hr
 |eptr _ _ _ _=>exact key hv hr
 |ro _=>exact key hv hr
 |mp _=>exact key hv hr
 |agg _=>exact key hv hr
 |tup _=>exact key hv hr
 |dead=>exact key hv hr
theorem ren0_cellOk {x y:V} (hr:V.ren0 f x=some y):y.cellOk=x.cellOk:=by
 cases x <;> simp only[V.ren0,Option.map_eq_some_iff,Option.some.injEq,reduceCtorEq]at hr <;> first
  |(obtain⟨_,_,rfl⟩:=hr;rfl)
  |(subst hr;rfl)
theorem ren1_cellOk {x y:V} (hr:V.ren1 f x=some y):y.cellOk=x.cellOk:=by
 cases x with
 |clo g caps=>simp only[V.ren1,Option.map_eq_some_iff]at hr;obtain⟨_,_,rfl⟩:=hr;rfl
 |_=>exact ren0_cellOk (f:=f) hr
theorem V2.ren (R:RenOk X X' f ρ h ρ2 h2) {v:Value} {x y:V} (hv:V2 X ρ h w v x) (hr:V.ren2 f x=some y):V2 X' ρ2 h2 w v y:=by
 have key:V1 X ρ h w v x→V.ren1 f x=some y→V2 X' ρ2 h2 w v y:=fun a b=>(V1.ren R a b).v2
 cases x with
 |agg cs=>
  simp only[V.ren2,Option.map_eq_some_iff]at hr
  obtain⟨cs',hc,rfl⟩:=hr
  obtain⟨us,h1,h2',h3⟩:=hv
  obtain⟨e1,e2⟩:=mapM_get hc
  refine⟨us,h1,by omega,fun j c hj=> ?_⟩
  obtain⟨a,ha,hac⟩:=e2 j c hj
  obtain⟨u,hu,hua,hok⟩:=h3 j a ha
  exact⟨u,hu,hua.ren R hac,(ren1_cellOk hac).trans hok⟩
 |d _=>exact key hv hr
 |nilS=>exact key hv hr
 |arr _ _=>exact key hv hr
 |sl _ _ _ _=>exact key hv hr
 |emp=>exact key hv hr
 |ptr _ _=>exact key hv hr
 |eptr _ _ _ _=>exact key hv hr
 |ro _=>exact key hv hr
 |mp _=>exact key hv hr
 |clo _ _=>exact key hv hr
 |tup _=>exact key hv hr
 |dead=>exact key hv hr
theorem VRel.ren (R:RenOk X X' f ρ h ρ2 h2) {v:Value} {x y:V} (hv:VRel X ρ h w v x) (hr:V.ren f x=some y):VRel X' ρ2 h2 w v y:=by
 have key:V2 X ρ h w v x→V.ren2 f x=some y→VRel X' ρ2 h2 w v y:=fun a b=>(V2.ren R a b).vrel
 cases x with
 |tup vs=>
  simp only[V.ren,Option.map_eq_some_iff]at hr
  obtain⟨vs',hc,rfl⟩:=hr
  obtain⟨us,h1,h2',h3⟩:=hv
  obtain⟨e1,e2⟩:=mapM_get hc
  refine⟨us,h1,by omega,fun j c hj=> ?_⟩
  obtain⟨a,ha,hac⟩:=e2 j c hj
  obtain⟨u,hu,hua⟩:=h3 j a ha
  exact⟨u,hu,hua.ren R hac⟩
 |d _=>exact key hv hr
 |nilS=>exact key hv hr
 |arr _ _=>exact key hv hr
 |sl _ _ _ _=>exact key hv hr
 |emp=>exact key hv hr
 |ptr _ _=>exact key hv hr
 |eptr _ _ _ _=>exact key hv hr
 |ro _=>exact key hv hr
 |mp _=>exact key hv hr
 |clo _ _=>exact key hv hr
 |agg _=>exact key hv hr
 |dead=>exact key hv hr
theorem ObjRel.ren (R:RenOk X X' f ρ h ρ2 h2) {r:Place} {o o':Obj} (ho:ObjRel X ρ h w r o) (hr:Obj.ren f o=some o'):ObjRel X' ρ2 h2 w r o':=by
 cases o with
 |box cs=>
  simp only[Obj.ren,Option.map_eq_some_iff]at hr
  obtain⟨cs',hc,rfl⟩:=hr
  obtain⟨e1,e2⟩:=mapM_get hc
  refine⟨fun hn=> ?_,fun hne=> ?_⟩
  ·have ha:=ho.1 hn
   rw[List.all_eq_true]at ha ⊢
   intro x hx
   obtain⟨j,hj⟩:=List.getElem?_of_mem hx
   obtain⟨a,h1,h2⟩:=e2 j x hj
   have:=ha a (List.mem_of_getElem? h1)
   cases a <;> simp only[V.fixed,Bool.false_eq_true]at this <;> (simp only[V.ren1,V.ren0,Option.some.injEq]at h2;subst h2;rfl)
  obtain⟨b,c,cur,e,fz,h1,h2',h3,h4,h5⟩:=ho.2 hne
  refine⟨b,c,cur,e,fz,h1,h2',by omega,h4,fun j x hj=> ?_⟩
  obtain⟨a,ha,hac⟩:=e2 j x hj
  obtain⟨u,hu,hua,hok⟩:=h5 j a ha
  exact⟨u,hu,hua.ren R hac,(ren1_cellOk hac).trans hok⟩
 |arr sz xs wm=>
  simp only[Obj.ren,Option.some.injEq]at hr;subst hr
  refine⟨ho.1, ?_⟩
  have h2':=ho.2
  cases r with
  |none=>exact h2'
  |some p=>
   obtain⟨b,cap⟩:=p
   obtain⟨cur,e,fz,k1,k2,k3,k4,k5,k6,k7,k8⟩:=h2'
   exact⟨cur,e,fz,k1,k2,k3,k4,k5,k6,k7,fun j x hj=>let ⟨u,m1,m2,m3⟩:=k8 j x hj;⟨u,m1,R.rep m2,m3⟩⟩
 |siter s pos=>simp only[Obj.ren,Option.some.injEq]at hr;subst hr;exact ho
 |miter m=>
  simp only[Obj.ren,Option.map_eq_some_iff]at hr
  obtain⟨m',hm,rfl⟩:=hr
  obtain⟨b,c,bm,cm,since,ck,seen,es,bs,ck',h1,h2,h3,h4,h5⟩:=ho
  obtain⟨o',e1,e2,e3⟩:=R.fwd _ _ hm _ h4
  simp only[Obj.ren,Option.some.injEq]at e2;subst e2
  exact⟨b,c,bm,cm,since,ck,seen,es,bs,ck',h1,h2,e3.trans h3,e1,h5⟩
 |map es=>
  simp only[Obj.ren,Option.some.injEq]at hr;subst hr
  obtain⟨b,c,en,cl,h1,h2',h3,h4⟩:=ho
  refine⟨b,c,en,cl,h1,h2',h3,fun j k x hj=> ?_⟩
  obtain⟨e,h5,h6,h7,h8⟩:=h4 j k x hj
  refine⟨e,h5,R.rep h6, ?_,h8⟩
  rcases h8 with rfl | ⟨y,rfl⟩
  ·exact h7
  ·exact R.rep h7
theorem ren_mutAt {o o':Obj} (hr:Obj.ren f o=some o') (j:Nat):o'.mutAt j↔o.mutAt j:=by
 cases o with
 |box cs=>simp only[Obj.ren,Option.map_eq_some_iff]at hr;obtain⟨cs',_,rfl⟩:=hr;exact Iff.rfl
 |arr _ _ _=>simp only[Obj.ren,Option.some.injEq]at hr;subst hr;exact Iff.rfl
 |siter _ _=>simp only[Obj.ren,Option.some.injEq]at hr;subst hr;exact Iff.rfl
 |miter m=>simp only[Obj.ren,Option.map_eq_some_iff]at hr;obtain⟨m',_,rfl⟩:=hr;exact Iff.rfl
 |map _=>simp only[Obj.ren,Option.some.injEq]at hr;subst hr;exact Iff.rfl
theorem ren_evo {g:Nat→Option Nat} {o o1 o2 o3:Obj} {r r':Place} (h1:Obj.ren f o=some o1) (h2:EvoObj o1 o2 r r') (h3:Obj.ren g o2=some o3):EvoObj o o3 r r':=by
 cases o with
 |box cs=>
  simp only[Obj.ren,Option.map_eq_some_iff]at h1
  obtain⟨cs1,hc1,rfl⟩:=h1
  cases o2 with
  |box cs2=>
   simp only[Obj.ren,Option.map_eq_some_iff]at h3
   obtain⟨cs3,hc3,rfl⟩:=h3
   exact⟨by rw[(mapM_get hc3).1,h2.1,(mapM_get hc1).1],h2.2⟩
  |arr _ _ _=>exact h2.elim
  |siter _ _=>exact h2.elim
  |miter _=>exact h2.elim
  |map _=>exact h2.elim
 |arr _ _ _=>
  simp only[Obj.ren,Option.some.injEq]at h1;subst h1
  cases o2 with
  |box cs2=>exact h2.elim
  |arr _ _ _=>simp only[Obj.ren,Option.some.injEq]at h3;subst h3;exact h2
  |siter _ _=>exact h2.elim
  |miter _=>exact h2.elim
  |map _=>exact h2.elim
 |siter _ _=>
  simp only[Obj.ren,Option.some.injEq]at h1;subst h1
  cases o2 with
  |box cs2=>exact h2.elim
  |arr _ _ _=>exact h2.elim
  |siter _ _=>simp only[Obj.ren,Option.some.injEq]at h3;subst h3;exact h2
  |miter _=>exact h2.elim
  |map _=>exact h2.elim
 |miter _=>
  simp only[Obj.ren,Option.map_eq_some_iff]at h1
  obtain⟨m1,_,rfl⟩:=h1
  cases o2 with
  |box cs2=>exact h2.elim
  |arr _ _ _=>exact h2.elim
  |siter _ _=>exact h2.elim
  |miter _=>simp only[Obj.ren,Option.map_eq_some_iff]at h3;obtain⟨m3,_,rfl⟩:=h3;exact h2
  |map _=>exact h2.elim
 |map _=>
  simp only[Obj.ren,Option.some.injEq]at h1;subst h1
  cases o2 with
  |box cs2=>exact h2.elim
  |arr _ _ _=>exact h2.elim
  |siter _ _=>exact h2.elim
  |miter _=>exact h2.elim
  |map _=>simp only[Obj.ren,Option.some.injEq]at h3;subst h3;exact h2
/-! ### a part of the objects -/
def subPlaces (ρ:Places) (ids:List Nat):Places:=ids.map fun i=>(ρ[i]?).getD none
theorem subPlaces_no {ρ:Places} {ids:List Nat} {g:Nat} (hn: ∀id c:Nat,ρ[id]? ≠some (some (g,c))) (id c:Nat):(subPlaces ρ ids)[id]? ≠some (some (g,c)):=fun e=>by
 simp only[subPlaces,List.getElem?_map,Option.map_eq_some_iff]at e
 obtain⟨i',_,g2⟩:=e
 refine hn i' c ?_
 cases g3:ρ[i']? with
 |none=>rw[g3]at g2;cases g2
 |some r=>rw[g3]at g2;exact congrArg some g2
def others (X:Nat→Nat→Prop) (ρ:Places) (h:List Obj) (ids:List Nat) (b j:Nat):Prop:=
 X b j∨ ∃ (id c:Nat) (o:Obj),id∉ids∧ρ[id]? =some (some (b,c))∧h[id]? =some o∧o.mutAt j
theorem takeObjs_spec {ids:List Nat} (ht:takeObjs h f ids=some h2):h2.length=ids.length∧ ∀ (j:Nat) (o':Obj),h2[j]? =some o'→ ∃i o,ids[j]? =some i∧h[i]? =some o∧Obj.ren f o=some o':=by
 obtain⟨h1,h2'⟩:=mapM_get ht
 refine⟨h1,fun j o' hj=> ?_⟩
 obtain⟨i,hi,hb⟩:=h2' j o' hj
 simp only[Option.bind_eq_some_iff]at hb
 obtain⟨o,ho,hr⟩:=hb
 exact⟨i,o,hi,ho,hr⟩
theorem sub_get (H:HRel X ρ h w) {ids:List Nat} {i j:Nat} {o:Obj} (hi:ids[j]? =some i) (ho:h[i]? =some o):(subPlaces ρ ids)[j]? =ρ[i]? :=by
 obtain⟨r,hr,_⟩:=H.obj i o ho
 simp[subPlaces,hi,hr]
theorem sub_rel (H:HRel X ρ h w) {ids:List Nat} (hn:ids.Nodup) (ht:takeObjs h (place ids) ids=some h2) {Y:Nat→Nat→Prop} (hY: ∀b j,Y b j→others X ρ h ids b j):
 RenOk X Y (place ids) ρ h (subPlaces ρ ids) h2∧HRel Y (subPlaces ρ ids) h2 w:=by
 obtain⟨t1,t2⟩:=takeObjs_spec ht
 have hget: ∀ (j:Nat) (r:Place),(subPlaces ρ ids)[j]? =some r→ ∃i,ids[j]? =some i∧ρ[i]? =some r:=fun j r hj=>by
  have hlt:j<h2.length:=by rw[t1];simpa[subPlaces]using lt_of_getElem? hj
  obtain⟨i,o,hi,ho,_⟩:=t2 j h2[j] (by simp[hlt])
  rw[sub_get H hi ho]at hj
  exact⟨i,hi,hj⟩
 have hmu: ∀b j,Mut Y (subPlaces ρ ids) h2 b j→Mut X ρ h b j:=by
  rintro b j (hX | ⟨id,c,o,m1,m2,m3⟩)
  ·rcases hY b j hX with hX | ⟨id,c,o,_,m1,m2,m3⟩
   ·exact .inl hX
   ·exact .inr ⟨id,c,o,m1,m2,m3⟩
  ·obtain⟨i,o0,hi,ho0,hr⟩:=t2 id o m2
   rw[sub_get H hi ho0]at m1
   exact .inr ⟨i,c,o0,m1,ho0,(ren_mutAt hr j).1 m3⟩
 have R:RenOk X Y (place ids) ρ h (subPlaces ρ ids) h2:=⟨fun i j hp o ho=>by
  have hi:=place_get hp
  have hlt:j<h2.length:=by rw[t1];exact lt_of_getElem? hi
  obtain⟨i',o',hi',ho',hr⟩:=t2 j h2[j] (by simp[hlt])
  rw[hi]at hi';cases hi'
  rw[ho]at ho';cases ho'
  exact⟨_,by simp[hlt],hr,sub_get H hi ho⟩,hmu⟩
 refine⟨R,⟨by simp[subPlaces,t1],fun id o' ho'=> ?_,fun b j hX=> ?_,fun id b c j hid=> ?_,fun i j b c c' hi hj=> ?_⟩⟩
 ·obtain⟨i,o,hi,ho,hr⟩:=t2 id o' ho'
  obtain⟨r,hr1,hr2⟩:=H.obj i o ho
  exact⟨r,(sub_get H hi ho).trans hr1,hr2.ren R hr⟩
 ·rcases hY b j hX with hX | ⟨id,c,o,_,m1,m2,m3⟩
  ·exact H.xlt b j hX
  ·exact H.lt m1
 ·obtain⟨i,hi,hr⟩:=hget id _ hid
  intro hYb
  rcases hY b j hYb with hX | ⟨id',c',o,hni,m1,m2,m3⟩
  ·exact H.xown i b c j hr hX
  ·have:=H.inj _ _ b _ _ hr m1
   subst this
   exact hni (List.mem_of_getElem? hi)
 ·obtain⟨i1,hi1,hr1⟩:=hget i _ hi
  obtain⟨j1,hj1,hr2⟩:=hget j _ hj
  have:=H.inj _ _ b c c' hr1 hr2
  subst this
  have h3:=place_of hn hi1
  have h4:=place_of hn hj1
  rw[h3]at h4
  simpa using h4
end
end Go.Am
namespace Go.Am
theorem ba_beq (a b:ByteArray):(a == b)=decide (a=b):=by
 obtain⟨x⟩:=a
 obtain⟨y⟩:=b
 show (x == y)=_
 by_cases h:x=y
 ·subst h;simp
 ·simp[h]
theorem findM_loc: ∀ (es:List (D × V)) (k:D),findM es k=(locM es k).bind fun i=>(es[i]?).map (·.2)
 |[],_=>rfl
 |(k',v)::r,k=>by
  unfold findM locM
  split
  ·rfl
  ·rw[findM_loc r k]
   cases locM r k <;> simp
theorem putM_loc (k:D) (y:V): ∀ (es:List (D × V)),putM es k y=match locM es k with | some i=>es.set i (k,y) | none=>es++[(k,y)]
 |[]=>rfl
 |(k',v)::r=>by
  unfold putM locM
  split
  ·rfl
  ·rw[putM_loc k y r]
   cases locM r k <;> simp
theorem delM_loc (k:D): ∀ (es:List (D × V)),delM es k=match locM es k with | some i=>es.eraseIdx i | none=>es
 |[]=>rfl
 |(k',v)::r=>by
  unfold delM locM
  split
  ·rfl
  ·rw[delM_loc k r]
   cases locM r k <;> simp
theorem locM_lt: ∀ {es:List (D × V)} {k:D} {i:Nat},locM es k=some i→i<es.length∧ ∀p,es[i]? =some p→p.1=k
 |[],_,_,h=>by cases h
 |(k',v)::r,k,i,h=>by
  unfold locM at h
  split at h
  ·rename_i he
   simp only[Option.some.injEq]at h;subst h
   exact⟨by simp,fun p hp=>by simp only[List.getElem?_cons_zero,Option.some.injEq]at hp;subst hp;exact (D.eqb_eq _ _).1 he⟩
  ·simp only[Option.map_eq_some_iff]at h
   obtain⟨j,hj,rfl⟩:=h
   obtain⟨h1,h2⟩:=locM_lt hj
   exact⟨by simp only[List.length_cons];omega,fun p hp=>h2 p (by simpa using hp)⟩
section
variable {X:Nat→Nat→Prop} {ρ ρ':Places} {h h':List Obj} {w w':World} {P:Program}
theorem makeMap_sound {t:TypeId} (H:HRel X ρ h w): ∃u ρ' w',(Instr.makeMap t none).run P w= .ok u w'∧Stp X ρ h w ρ' (h++[.map [] [] 0]) w'∧VRel X ρ' (h++[.map [] [] 0]) w' u (.mp h.length):=by
 have hget:(w.alloc (.map #[] 0)).heap[w.heap.size]? =some (.map #[] 0):=by
  show (w.heap.push _)[w.heap.size]? =_
  simp
 obtain⟨h1,h2,h3⟩:=step_push (w':=w.alloc (.map #[] 0)) H (.map [] [] 0) (some (w.heap.size,0)) rfl rfl rfl (by simp) (fun b hb=>by
  show (w.heap.push _)[b]? =_
  rw[Array.getElem?_push,if_neg (by omega)]) (fun b c e=>by cases e;exact Nat.le_refl _) fun _ _=>⟨_,_, #[],rfl,hget,rfl,rfl,fun j k x hj=>by simp at hj⟩
 refine⟨.map (some w.heap.size),_,_,by simp[Instr.makeMap],⟨h1,h2,h3⟩,.inr ⟨[],[],0,w.heap.size,0,by simp, ?_,rfl⟩⟩
 rw[← H.len]
 simp
inductive KeyIs (P:Program):Nat × TypeId × TypeId→Prop
 |str {k e:TypeId}:P.underlying k=some .string→KeyIs P (0,k,e)
 |agg {k e:TypeId} {fs:Array Field} {l:List (Nat × Nat)}:P.underlying k=some (.struct fs)→flat1 P k=some l→KeyIs P (1,k,e)
theorem keyK_is {t:TypeId} {q:Nat × TypeId × TypeId} (hq:keyK P t=some q):P.underlying t=some (.map q.2.1 q.2.2)∧KeyIs P q:=by
 unfold keyK at hq
 split at hq
 ·rename_i k e ht
  split at hq
  ·rename_i hk
   simp only[Option.some.injEq]at hq;subst hq
   exact⟨ht,.str hk⟩
  ·rename_i fs hk
   split at hq
   ·rename_i hf
    simp only[Option.some.injEq]at hq;subst hq
    obtain⟨l,hl⟩:=Option.isSome_iff_exists.1 hf
    exact⟨ht,.agg hk hl⟩
   ·cases hq
  ·cases hq
 ·cases hq
theorem flat1_spec {k : TypeId} {l : List (Nat × Nat)} (hl : flat1 P k = some l) : ∃ fs, P.underlying k = some (.struct fs) ∧ P.stoodInHeld k = false ∧ (∀ f ∈ fs.toList, f.name ≠ "_") ∧ (fs.toList.mapM fun (f : Field) => (cellKind P f.type).map fun k => (f.offset, k)) = some l := by
 unfold flat1 at hl
 split at hl
 ·rename_i fs hs
  split at hl
  ·rename_i hc
   simp only[Bool.and_eq_true,Bool.not_eq_true',List.all_eq_true,bne_iff_ne,ne_eq]at hc
   exact⟨fs,hs,hc.1,hc.2,hl⟩
  ·cases hl
 ·cases hl
theorem eqCell_lit {n:Nat} {x y:D} {b:Bool} (he:eqCell n x y=some b) {M:Nat→Nat→Prop} {v u:Value} (hv:Rep M w v x) (hu:Rep M w u x):v=u:=by
 unfold eqCell at he
 split at he
 ·cases hv;cases hu;rfl
 ·cases hv;cases hu;rfl
 ·cases hv;cases hu;rfl
 ·cases he
theorem eqCells_at: ∀ {l:List (Nat × Nat)} {xs ys:List D} {b:Bool},eqCells l xs ys=some b→ ∀p∈l, ∃x y c,xs[p.1]? =some x∧ys[p.1]? =some y∧eqCell p.2 x y=some c
 |[],_,_,_,_,p,hp=>by cases hp
 |(o,k)::r,xs,ys,b,he,p,hp=>by
  simp only[eqCells]at he
  split at he
  ·rename_i x y hx hy
   split at he
   ·rename_i a b' ha hb
    rcases List.mem_cons.1 hp with rfl | hp
    ·exact⟨x,y,a,hx,hy,ha⟩
    ·exact eqCells_at hb p hp
   ·cases he
  ·cases he
theorem keyE_lit {q:Nat × TypeId × TypeId} {k k':D} (he:keyE P q k k'=true) {M:Nat→Nat→Prop} {v u:Value} (hv:Rep M w v k) (hu:Rep M w u k):v=u:=by
 unfold keyE at he
 split at he
 ·cases hv;cases hu;rfl
 ·rename_i xs ys _
  split at he
  ·rename_i l hl
   simp only[Bool.and_eq_true,decide_eq_true_eq]at he
   obtain⟨h1,h2⟩:=he
   cases hv with
   |agg cs _ vs a1 a2 a3=>
    cases hu with
    |agg ds _ us b1 b2 b3=>
     have:cs=ds:=by
      apply Array.ext_getElem?
      intro j
      by_cases hj:j<xs.length
      ·have hx:xs[j]? =some xs[j]:=by simp[hj]
       have hm:j∈l.map (·.1):=by rw[h1];exact List.mem_range.2 hj
       obtain⟨p,hp,rfl⟩:=List.mem_map.1 hm
       obtain⟨x,y,c,e1,e2,e3⟩:=eqCells_at h2 p hp
       rw[(a2 _ _ e1).1,(b2 _ _ e1).1]
       rw[eqCell_lit e3 (a3 _ _ e1) (b3 _ _ e1)]
      ·rw[Array.getElem?_eq_none (by omega),Array.getElem?_eq_none (by omega)]
     rw[this]
  ·cases he
 ·cases he
theorem keyE_same {q:Nat × TypeId × TypeId} {k k':D} (he:keyE P q k k'=true) {M:Nat→Nat→Prop} {v:Value} (hv:Rep M w v k) (n:Nat):Instr.sameBits (n+2) v v=true:=by
 unfold keyE at he
 split at he
 ·cases hv;exact (ba_beq _ _).trans (decide_eq_true rfl)
 ·rename_i xs ys _
  split at he
  ·rename_i l hl
   simp only[Bool.and_eq_true,decide_eq_true_eq]at he
   obtain⟨h1,h2⟩:=he
   cases hv with
   |agg cs _ vs a1 a2 a3=>
    simp only[Instr.sameBits,beq_self_eq_true,Bool.true_and,List.all_eq_true,Prod.forall]
    intro a b hab
    obtain⟨j,hj⟩:=List.getElem?_of_mem hab
    rw[List.getElem?_zip_eq_some]at hj
    obtain⟨ha,hb⟩:=hj
    rw[ha]at hb
    cases hb
    have hjl:j<xs.length:=by rw[← a1];have:=lt_of_getElem? ha;simpa using this
    have hm:j∈l.map (·.1):=by rw[h1];exact List.mem_range.2 hjl
    obtain⟨p,hp,rfl⟩:=List.mem_map.1 hm
    obtain⟨x,y,c,e1,e2,e3⟩:=eqCells_at h2 p hp
    have hv:=a3 _ _ e1
    have e4:=(a2 _ _ e1).1
    have ea:vs p.1=a:=by
     have:cs[p.1]? =some a:=by simpa using ha
     rw[e4]at this
     exact Option.some.inj this
    rw[ea]at hv
    unfold eqCell at e3
    split at e3
    ·cases hv;simp[Instr.sameBits]
    ·cases hv;simp[Instr.sameBits]
    ·cases hv;exact (ba_beq _ _).trans (decide_eq_true rfl)
    ·cases e3
  ·cases he
 ·cases he
theorem keyE_equal {q:Nat × TypeId × TypeId} (hq:KeyIs P q) {k k':D} (he:keyE P q k k'=true) {M:Nat→Nat→Prop} {v u:Value} (hv:Rep M w v k) (hu:Rep M w u k'):
 (Op.equal q.2.1 v u).run P w= .ok (D.eqb k k') w:=by
 cases hq with
 |@str kt et hs=>
  cases k <;> cases k' <;> simp only[keyE,Bool.false_eq_true]at he
  rename_i a b
  cases hv;cases hu
  have h: ∀d,(Op.equalIn (d+1) kt (.string a) (.string b)).run P w= .ok (D.eqb (.str a) (.str b)) w:=fun d=>by
   simp[Op.equalIn,run_underlying hs,D.eqb,ba_beq]
  exact h 9999
 |@agg kt et fs l hs hl=>
  cases k <;> cases k' <;> simp only[keyE,Bool.false_eq_true]at he
  ·rename_i xs ys
   rw[hl]at he
   simp only[Bool.and_eq_true,decide_eq_true_eq]at he
   obtain⟨h1,h2⟩:=he
   obtain⟨cs,rfl,hcs⟩:=Rep.aggGet hv
   obtain⟨ds,rfl,hds⟩:=Rep.aggGet hu
   obtain⟨fs',hs',c1,c3,hm⟩:=flat1_spec hl
   have hf:P.fieldsOf kt=fs':=by simp[Program.fieldsOf,hs']
   show (Op.equalIn (9998+1+1) kt (.agg cs) (.agg ds)).run P w=_
   rw[run_equalIn_struct w _ kt cs ds (by rw[hf];exact hs') c1,hf]
   exact eqCells_sound (d:=9998) hcs hds fs'.toList _ _ hm c3 h2
def ERel (X:Nat→Nat→Prop) (ρ:Places) (h:List Obj) (w:World) (e:MapEntry) (p:D × V):Prop:=Rep (Mut X ρ h) w e.key p.1∧V0 X ρ h w e.val p.2∧(p.2= .nilS∨ ∃y,p.2= .d y)
inductive ERels (X:Nat→Nat→Prop) (ρ:Places) (h:List Obj) (w:World):List MapEntry→List (D × V)→Prop
 |nil:ERels X ρ h w [] []
 |cons {e:MapEntry} {p:D × V} {l:List MapEntry} {es:List (D × V)}:ERel X ρ h w e p→ERels X ρ h w l es→ERels X ρ h w (e::l) (p::es)
theorem ERels.length {l:List MapEntry} {es:List (D × V)} (hr:ERels X ρ h w l es):l.length=es.length:=by
 induction hr with
 |nil=>rfl
 |cons _ _ ih=>simp[ih]
theorem ERels.of: ∀ {l:List MapEntry} {es:List (D × V)},l.length=es.length→(∀ (j:Nat) (k:D) (x:V),es[j]? =some (k,x)→ ∃e,l[j]? =some e∧Rep (Mut X ρ h) w e.key k∧V0 X ρ h w e.val x∧(x= .nilS∨ ∃y,x= .d y))→ERels X ρ h w l es
 |[],[],_,_=> .nil
 |[],_::_,hl,_=>by simp at hl
 |_::_,[],hl,_=>by simp at hl
 |e::l,(k,x)::es,hl,hr=>by
  obtain⟨e',h1,h2⟩:=hr 0 k x rfl
  simp only[List.getElem?_cons_zero,Option.some.injEq]at h1;subst h1
  exact .cons h2 (ERels.of (by simpa using hl) fun j k x hj=>by simpa using hr (j+1) k x (by simpa using hj))
theorem ERels.get {l:List MapEntry} {es:List (D × V)} (hr:ERels X ρ h w l es): ∀ (j:Nat) (k:D) (x:V),es[j]? =some (k,x)→ ∃e,l[j]? =some e∧Rep (Mut X ρ h) w e.key k∧V0 X ρ h w e.val x∧(x= .nilS∨ ∃y,x= .d y):=by
 induction hr with
 |nil=>intro j k x hj;simp at hj
 |@cons e p l es h1 h2 ih=>
  intro j k x hj
  cases j with
  |zero=>simp only[List.getElem?_cons_zero,Option.some.injEq]at hj;subst hj;exact⟨e,rfl,h1⟩
  |succ j=>simpa using ih j k x (by simpa using hj)
theorem findNow_str {kv:ByteArray} {t0 t1:TypeId}: ∀ {l:List MapEntry} {es:List (D × V)} (i:Nat),ERels X ρ h w l es→es.all (fun p=>keyE P (0,t0,t1) (.str kv) p.1)=true→
 Instr.findNow .string (.string kv) l i=some ((locM es (.str kv)).bind fun j=>(l[j]?).map fun e=>(i+j,e.val))
 |_,_,i,.nil,_=>rfl
 |_,_,i, @ERels.cons _ _ _ _ e p l es h1 h2,ha=>by
  simp only[List.all_cons,Bool.and_eq_true]at ha
  obtain⟨k',x⟩:=p
  obtain⟨q1,q2⟩:=ha
  cases k' <;> simp only[keyE,Bool.false_eq_true]at q1
  rename_i b
  have hk:e.key= .string b:=by
   have:=h1.1
   simp only at this
   generalize e.key=z at this
   cases this;rfl
  have ih:=findNow_str (t0:=t0) (t1:=t1) (i+1) h2 q2
  simp only[Instr.findNow,hk,Instr.sameNow,ba_beq,locM,D.eqb]
  by_cases hab:kv=b
  ·subst hab;simp
  ·have hba: ¬ b=kv:=fun e=>hab e.symm
   simp only[hab,hba,decide_false,Bool.false_eq_true,if_false]
   rw[ih]
   cases locM es (.str kv) with
   |none=>rfl
   |some j=>
    simp only[Option.map_some,Option.bind_some,List.getElem?_cons_succ]
    cases l[j]? with
    |none=>rfl
    |some e'=>simp only[Option.map_some,Option.some.injEq,Prod.mk.injEq,and_true];omega
theorem findAsking_run {q:Nat × TypeId × TypeId} (hq:KeyIs P q) {kv:Value} {k:D} (hk:Rep (Mut X ρ h) w kv k): ∀ {l:List MapEntry} {es:List (D × V)} (i:Nat),ERels X ρ h w l es→es.all (fun p=>keyE P q k p.1)=true→
 (Instr.findAsking q.2.1 kv l i).run P w= .ok ((locM es k).bind fun j=>(l[j]?).map fun e=>(i+j,e.val)) w
 |_,_,i,.nil,_=>by simp[Instr.findAsking,locM]
 |_,_,i, @ERels.cons _ _ _ _ e p l es h1 h2,ha=>by
  simp only[List.all_cons,Bool.and_eq_true]at ha
  obtain⟨k',x⟩:=p
  obtain⟨q1,q2⟩:=ha
  have he:=keyE_equal hq q1 hk h1.1
  have ih:=findAsking_run hq hk (i+1) h2 q2
  simp only[Instr.findAsking,Sem.run_bind,he,Result.andThen_ok]
  have hsw:D.eqb k k'=D.eqb k' k:=by
   by_cases e:k=k'
   ·subst e;rfl
   ·have a1:D.eqb k k'=false:=by cases c:D.eqb k k' with | false=>rfl | true=>exact absurd ((D.eqb_eq _ _).1 c) e
    have a2:D.eqb k' k=false:=by cases c:D.eqb k' k with | false=>rfl | true=>exact absurd ((D.eqb_eq _ _).1 c).symm e
    rw[a1,a2]
  rw[hsw]
  unfold locM
  cases D.eqb k' k with
  |true=>simp
  |false=>
   simp only[Bool.false_eq_true,if_false]
   rw[ih]
   cases locM es k with
   |none=>rfl
   |some j=>
    simp only[Option.map_some,Option.bind_some,List.getElem?_cons_succ]
    cases l[j]? with
    |none=>rfl
    |some e'=>
     simp only[Option.map_some]
     rw[show i+1+j=i+(j+1) by omega]
theorem findKey_run {q:Nat × TypeId × TypeId} (hq:KeyIs P q) {kv:Value} {k:D} (hk:Rep (Mut X ρ h) w kv k) {l:List MapEntry} {es:List (D × V)} (hr:ERels X ρ h w l es) (hkk:keyE P q k k=true) (ha:es.all (fun p=>keyE P q k p.1)=true):
 (Instr.findKey q.2.1 kv l).run P w= .ok ((locM es k).bind fun j=>(l[j]?).map fun e=>(j,e.val)) w:=by
 unfold Instr.findKey
 cases hq with
 |@str kt et hs=>
  cases k <;> simp only[keyE,Bool.false_eq_true]at hkk
  cases hk
  rename_i a
  have:=findNow_str (t0:=kt) (t1:=et) (P:=P) 0 hr ha
  simp only[Nat.zero_add]at this
  simp[run_underlying hs,this]
 |@agg kt et fs fl hs hl=>
  cases hr with
  |nil=>simp[run_underlying hs,Instr.findNow,locM]
  |cons h1 h2=>
   have:=findAsking_run (.agg hs hl) hk 0 (.cons h1 h2) ha
   simp only[Nat.zero_add]at this
   cases k <;> simp only[keyE,Bool.false_eq_true]at hkk
   simp[run_underlying hs,Instr.findNow,Instr.sameNow]
   exact this
theorem cellKind_under {t:TypeId} {n:Nat} (hk:cellKind P t=some n):(∃k,P.underlying t=some (.int k))∨P.underlying t=some .bool∨P.underlying t=some .string:=by
 unfold cellKind at hk
 split at hk
 ·rename_i k hs;exact .inl ⟨k,hs⟩
 ·rename_i hs;exact .inr (.inl hs)
 ·rename_i hs;exact .inr (.inr hs)
 ·cases hk
theorem checkCell_run {empty:Bool} {n m:Nat} {t:TypeId} (hk:cellKind P t=some m) {v:Value}:(Instr.checkKey empty (n+1) t v).run P w= .ok () w:=by
 rcases cellKind_under hk with ⟨k,hs⟩ | hs | hs <;> simp[Instr.checkKey,run_underlying hs]
theorem forIn_steps {g:Field→PUnit→Sem (ForInStep PUnit)}: ∀ (fs:List Field),(∀f∈fs,(g f PUnit.unit).run P w= .ok (ForInStep.yield PUnit.unit) w)→(forIn fs PUnit.unit g).run P w= .ok PUnit.unit w
 |[],_=>by simp
 |f::fs,hg=>by
  rw[List.forIn_cons]
  simp only[Sem.run_bind,hg f (List.mem_cons_self ..),Result.andThen_ok]
  exact forIn_steps fs fun x hx=>hg x (List.mem_cons_of_mem _ hx)
theorem fields_mem: ∀ (fs:List Field) (l:List (Nat × Nat)),(fs.mapM fun (f:Field)=>(cellKind P f.type).map fun k=>(f.offset,k))=some l→ ∀f∈fs, ∃k,cellKind P f.type=some k∧(f.offset,k)∈l
 |[],l,hl,f,hf=>by cases hf
 |g::fs,l,hl,f,hf=>by
  simp only[List.mapM_cons,Option.bind_eq_bind,Option.bind_eq_some_iff,Option.pure_def,Option.some.injEq,Option.map_eq_some_iff]at hl
  obtain⟨p,⟨k,hk,rfl⟩,l2,h2,rfl⟩:=hl
  rcases List.mem_cons.1 hf with rfl | hf
  ·exact⟨k,hk,List.mem_cons_self ..⟩
  ·obtain⟨k',a,b⟩:=fields_mem fs l2 h2 f hf
   exact⟨k',a,List.mem_cons_of_mem _ b⟩
theorem checkKey_run {q:Nat × TypeId × TypeId} (hq:KeyIs P q) {empty:Bool} {kv:Value} {k:D} (hk:Rep (Mut X ρ h) w kv k) (hkk:keyE P q k k=true) (n:Nat):(Instr.checkKey empty (n+2) q.2.1 kv).run P w= .ok () w:=by
 cases hq with
 |@str kt et hs=>simp[Instr.checkKey,run_underlying hs]
 |@agg kt et fs fl hs hl=>
  cases k <;> simp only[keyE,Bool.false_eq_true]at hkk
  rename_i xs
  rw[hl]at hkk
  simp only[Bool.and_eq_true,decide_eq_true_eq]at hkk
  obtain⟨cs,rfl,hcs⟩:=Rep.aggGet hk
  obtain⟨fs',hs',c1,c3,hm⟩:=flat1_spec hl
  rw[hs]at hs'
  cases hs'
  have hall: ∀p∈fl, ∃u,cs[p.1]? =some u:=fun p hp=>by
   obtain⟨x,y,c,e1,_⟩:=eqCells_at hkk.2 p hp
   obtain⟨u,hu,_⟩:=hcs _ x e1
   exact⟨u,hu⟩
  rw[Instr.checkKey]
  simp only[run_underlying hs,Sem.run_bind,Result.andThen_ok]
  rw[← Array.forIn_toList,forIn_steps (w:=w) _ fun f hf=> ?_]
  ·simp
  obtain⟨k,hk',hmem⟩:=fields_mem _ _ hm f hf
  obtain⟨u,hu⟩:=hall _ hmem
  have hp:=part_cell (P:=P) (w:=w) (cellKind_cell hk') hu
  have hck:=checkCell_run (w:=w) (empty:=empty) (n:=n) (v:=u) hk'
  by_cases hn : f.name = "_"
  ·simp[hn]
  ·simp[hn,hp,hck]
theorem ERels.all {r:Place} {es:List (D × V)} {bs:List Nat} {clock:Nat} (ho:ObjRel X ρ h w r (.map es bs clock)): ∃ (b c:Nat) (en:Array MapEntry),r=some (b,c)∧w.heap[b]? =some (.map en clock)∧en.toList.map (·.born)=bs∧ERels X ρ h w en.toList es:=by
 obtain⟨b,c,en,e1,e2,e3,ebs,e4⟩:=ho
 exact⟨b,c,en,e1,e2,ebs,ERels.of (by simpa using e3) fun j k x hj=>by simpa using e4 j k x hj⟩
theorem mapArg {a:Value} {id:Nat} {es:List (D × V)} {bs:List Nat} {clock:Nat} (H:HRel X ρ h w) (ha:VRel X ρ h w a (.mp id)) (ho:h[id]? =some (.map es bs clock)):
 ∃ (b c:Nat) (en:Array MapEntry),a= .map (some b)∧ρ[id]? =some (some (b,c))∧w.heap[b]? =some (.map en clock)∧(getObj b).run P w= .ok (.map en clock) w∧en.toList.map (·.born)=bs∧ERels X ρ h w en.toList es:=by
 rcases ha with ⟨cs,b,c,k1,_⟩ | ⟨es',bs',ck',b,c,k1,k2,rfl⟩
 ·rw[ho]at k1;cases k1
 ·obtain⟨r,g1,g2⟩:=H.obj id _ ho
  rw[k2]at g1;cases g1
  obtain⟨b',c',en,e1,e2,ebs,e3⟩:=ERels.all g2
  cases e1
  exact⟨b,c,en,rfl,k2,e2,by simp[getObj,Sem.run,e2],ebs,e3⟩
theorem V0.flat {v:Value} {x:V} (hv:V0 X ρ h w v x) (hx:x= .nilS∨ ∃y,x= .d y):V2 X ρ h w v x∧VRel X ρ h w v x:=by
 rcases hx with rfl | ⟨y,rfl⟩ <;> exact⟨hv,hv⟩
theorem V2.ofVRel {v:Value} {x:V} (hv:VRel X ρ h w v x) (hx: ∀l,x= .tup l→False):V2 X ρ h w v x:=by
 cases x <;> first
  |exact hv
  |exact (hx _ rfl).elim
theorem tupBool {v:Value} {x:V} {b:Bool} (hv:V2 X ρ h w v x):VRel X ρ h w (.tuple #[v,.bool b]) (.tup [x,.d (.bool b)]):=by
 refine⟨_,rfl,rfl,fun j c hj=> ?_⟩
 match j with
 |0=>simp only[List.getElem?_cons_zero,Option.some.injEq]at hj;subst hj;exact⟨v,rfl,hv⟩
 |1=>simp only[List.getElem?_cons_succ,List.getElem?_cons_zero,Option.some.injEq]at hj;subst hj;exact⟨.bool b,rfl,Rep.bool b⟩
 |j+2=>simp at hj
theorem lookupV_sound {t:TypeId} {A I x:V} {a i:Value} {ok:Bool} (hx:lookupV P h t A I ok=some x) (H:HRel X ρ h w) (ha:VRel X ρ h w a A) (hi:VRel X ρ h w i I):
 ∃u,(Instr.lookup t a i ok).run P w= .ok u w∧VRel X ρ h w u x:=by
 unfold lookupV at hx
 split at hx
 ·rename_i q id k hq
  split at hx
  ·rename_i es bs ck z ho hz
   split at hx
   ·rename_i hc
    simp only[Bool.and_eq_true]at hc
    obtain⟨ht,hk⟩:=keyK_is hq
    obtain⟨b,c,en,rfl,k2,e2,hget,ebs,e3⟩:=mapArg (P:=P) H ha ho
    have hfind:=findKey_run hk hi e3 hc.1 hc.2
    have hchk:=checkKey_run (w:=w) (empty:=en.isEmpty) hk hi hc.1 9998
    simp only[zeroM,Option.bind_eq_some_iff]at hz
    obtain⟨z',hz1,hz2⟩:=hz
    have hzv:V2 X ρ h w z' z∧VRel X ρ h w z' z:=by
     have:=constV_rel (X:=X) (ρ:=ρ) (h:=h) (w:=w) z'
     split at hz2
     ·cases hz2
     ·rename_i y hy
      simp only[Option.some.injEq]at hz2
      subst hz2
      exact⟨V2.ofVRel this hy,this⟩
    simp only[Instr.lookup,Sem.run_bind,run_underlying ht,Result.andThen_ok,hget,Sem.run_pure,hchk,hfind]
    rw[findM_loc]at hx
    cases hl:locM es k with
    |none=>
     rw[hl]at hx
     simp only[Option.bind_none,Option.some.injEq]at hx ⊢
     simp only[Sem.run_bind,zeroValue_run hz1,Result.andThen_ok,Sem.run_pure]
     subst hx
     obtain⟨h2,hr⟩:=hzv
     cases ok with
     |true=>exact⟨_,rfl,tupBool h2⟩
     |false=>exact⟨_,rfl,hr⟩
    |some j=>
     rw[hl]at hx
     obtain⟨hj,_⟩:=locM_lt hl
     have hp:es[j]? =some ((es[j]).1,(es[j]).2):=by simp[hj]
     obtain⟨e,f1,f2,f3,f4⟩:=e3.get j _ _ hp
     simp only[Option.bind_some,hp,Option.map_some,Option.some.injEq,f1]at hx ⊢
     subst hx
     obtain⟨h2,hr⟩:=V0.flat f3 f4
     cases ok with
     |true=>exact⟨_,rfl,tupBool h2⟩
     |false=>exact⟨_,rfl,hr⟩
   ·cases hx
  ·cases hx
 ·cases hx
theorem ERels.append {l l':List MapEntry} {es es':List (D × V)} (hr:ERels X ρ h w l es) (hr':ERels X ρ h w l' es'):ERels X ρ h w (l++l') (es++es'):=by
 induction hr with
 |nil=>exact hr'
 |cons h1 _ ih=>exact .cons h1 ih
theorem ERels.modify {f:MapEntry→MapEntry} {p:D × V}: ∀ {l:List MapEntry} {es:List (D × V)} {i:Nat},ERels X ρ h w l es→(∀e,l[i]? =some e→ERel X ρ h w (f e) p)→ERels X ρ h w (l.modify i f) (es.set i p)
 |_,_,i,.nil,_=>by cases i <;> exact .nil
 |_,_,0,.cons h1 h2,hf=> .cons (hf _ rfl) h2
 |_,_,i+1,.cons h1 h2,hf=> .cons h1 (ERels.modify h2 fun e he=>hf e (by simpa using he))
theorem ERels.erase: ∀ {l:List MapEntry} {es:List (D × V)} {i:Nat},ERels X ρ h w l es→ERels X ρ h w (l.eraseIdx i) (es.eraseIdx i)
 |_,_,i,.nil=>by cases i <;> exact .nil
 |_,_,0,.cons _ h2=>h2
 |_,_,i+1,.cons h1 h2=> .cons h1 (ERels.erase h2)
theorem eraseIdx_map {α β:Type} {f:α→β}: ∀ (l:List α) (i:Nat),(l.eraseIdx i).map f=(l.map f).eraseIdx i
 |[],i=>by cases i <;> rfl
 |x::l,0=>rfl
 |x::l,i+1=>congrArg (f x:: ·) (eraseIdx_map l i)
theorem modify_map {α β:Type} {f:α→β} {g:α→α} (h: ∀x,f (g x)=f x): ∀ (l:List α) (i:Nat),(l.modify i g).map f=l.map f
 |[],i=>by cases i <;> rfl
 |x::l,0=>by show f (g x)::l.map f=_;rw[h];rfl
 |x::l,i+1=>congrArg (f x:: ·) (modify_map h l i)
theorem setMap {id b c:Nat} {es es':List (D × V)} {bs bs':List Nat} {ck:Nat} {en en':Array MapEntry} {clock clock':Nat} (H:HRel X ρ h w) (ho:h[id]? =some (.map es bs ck)) (hr:ρ[id]? =some (some (b,c))) (hb:w.heap[b]? =some (.map en clock)) (he:ERels X ρ h w en'.toList es') (hbs:en'.toList.map (·.born)=bs'):
 ∃w',(setObj b (.map en' clock')).run P w= .ok () w'∧Stp X ρ h w ρ (h.set id (.map es' bs' clock')) w':=by
 have hset:(setObj b (.map en' clock')).run P w= .ok () { w with heap:=w.heap.setIfInBounds b (.map en' clock') }:=by simp[setObj,Sem.run,hb]
 have hbl:b<w.heap.size:=(Array.getElem?_eq_some_iff.1 hb).1
 have:=step_set (w':= { w with heap:=w.heap.setIfInBounds b (.map en' clock') }) (r':=some (b,c)) (o':= .map es' bs' clock') H ho hr rfl rfl rfl (by simp)
  (fun b2 _ hne=>by
    have:b2≠b:=fun e=>hne c (by rw[e])
    simp[Array.getElem?_setIfInBounds_ne (Ne.symm this)])
  (.inl rfl) (fun j v b2 c2 e hm=>absurd trivial hm) (fun _ j hm=>absurd trivial hm) rfl fun hf hev=>⟨b,c,en',rfl,by simp[hbl],by have:=he.length;simpa using this,hbs,fun j k x hj=>by
    obtain⟨e,g1,g2,g3,g4⟩:=he.get j k x hj
    exact⟨e,by simpa using g1,g2.mono hf.imm,g3.mono hf hev,g4⟩⟩
 have hρ:ρ.set id (some (b,c))=ρ:=by
  apply List.ext_getElem?
  intro i
  rw[List.getElem?_set]
  split
  ·rename_i e
   subst e
   rw[if_pos (lt_of_getElem? hr),hr]
  ·rfl
 rw[hρ]at this
 exact⟨_,hset,this.1,this.2.1,this.2.2⟩
theorem tupNil:VRel X ρ h w (.tuple #[]) (.tup []):=⟨#[],rfl,rfl,fun j c hj=>by simp at hj⟩
theorem deleteV_sound {t t2 ty:TypeId} {A I x:V} {a i:Value} (hx:deleteV P h t A I=some (x,h')) (H:HRel X ρ h w) (ha:VRel X ρ h w a A) (hi:VRel X ρ h w i I):
 ∃u ρ' w',(Builtin.delete_ #[t,t2] ty #[a,i]).run P w= .ok u w'∧Stp X ρ h w ρ' h' w'∧VRel X ρ' h' w' u x:=by
 unfold deleteV at hx
 split at hx
 ·rename_i q id k hq
  split at hx
  ·rename_i es bs clock ho
   split at hx
   ·rename_i hc
    simp only[Bool.and_eq_true]at hc
    simp only[Option.some.injEq,Prod.mk.injEq]at hx
    obtain⟨rfl,rfl⟩:=hx
    obtain⟨ht,hk⟩:=keyK_is hq
    obtain⟨b,c,en,rfl,k2,e2,hget,ebs,e3⟩:=mapArg (P:=P) H ha ho
    have hfind:=findKey_run hk hi e3 hc.1 hc.2
    have hchk:=checkKey_run (w:=w) (empty:=en.isEmpty) hk hi hc.1 9998
    have e3':ERels X ρ h w (match locM es k with | some i=>(en.eraseIdxIfInBounds i) | none=>en).toList (delM es k):=by
     rw[delM_loc]
     cases locM es k with
     |none=>exact e3
     |some j=>
      simp only[Array.toList_eraseIdxIfInBounds]
      exact e3.erase
    have ebs':(match locM es k with | some i=>(en.eraseIdxIfInBounds i) | none=>en).toList.map MapEntry.born=(match locM es k with | some i=>bs.eraseIdx i | none=>bs):=by
     cases locM es k with
     |none=>exact ebs
     |some j=>
      simp only[Array.toList_eraseIdxIfInBounds]
      rw[← ebs]
      exact eraseIdx_map _ _
    obtain⟨w',g1,g2⟩:=setMap (P:=P) (clock':=clock) H ho k2 e2 e3' ebs'
    refine⟨.tuple #[],ρ,w', ?_,g2,tupNil⟩
    simp only[Builtin.delete_,List.getElem?_toArray,List.getElem?_cons_zero,List.getElem?_cons_succ,Sem.run_bind,run_underlying ht,Result.andThen_ok,hget,hchk,hfind]
    cases hl:locM es k with
    |none=>
     rw[hl]at g1
     simp[g1]
    |some j=>
     rw[hl]at g1
     obtain⟨hj,_⟩:=locM_lt hl
     have hj':j<en.toList.length:=by rw[e3.length];exact hj
     simp only[Option.bind_some,List.getElem?_eq_getElem hj',Option.map_some]
     simp[g1]
   ·cases hx
  ·cases hx
 ·cases hx
theorem valM_sound {h1:List Obj} {y:V} {u:Value} {v:V} (hy:valM h y=some (v,h1)) (H:HRel X ρ h w) (hu:VRel X ρ h w u y):Stp X ρ h w ρ h1 w∧V0 X ρ h1 w u v∧(v= .nilS∨ ∃z,v= .d z):=by
 unfold valM at hy
 split at hy
 ·simp only[Option.some.injEq,Prod.mk.injEq]at hy
  obtain⟨rfl,rfl⟩:=hy
  exact⟨Stp.refl H,hu,.inl rfl⟩
 ·simp only[Option.map_eq_some_iff,Prod.mk.injEq]at hy
  obtain⟨⟨z,h2⟩,hp,rfl,rfl⟩:=hy
  obtain⟨st,hrep⟩:=pureV_sound hp H hu
  exact⟨st,hrep,.inr ⟨z,rfl⟩⟩
theorem keyStays {q:Nat × TypeId × TypeId} {k:D} {M:Nat→Nat→Prop} {o n:Value} (he:keyE P q k k=true) (ho:Rep M w o k) (hn:Rep M w n k):(Instr.keyThatStays o n).run P w= .ok n w:=by
 have e:=keyE_lit he ho hn
 subst e
 have hs:=keyE_same he ho 9998
 unfold Instr.keyThatStays
 rw[if_pos hs]
 rfl
theorem updateV_sound {t:TypeId} {A I Y x:V} {a i y:Value} (hx:updateV P h t A I Y=some (x,h')) (H:HRel X ρ h w) (ha:VRel X ρ h w a A) (hi:VRel X ρ h w i I) (hy:VRel X ρ h w y Y):
 x= .tup []∧ ∃ρ' w',(Instr.mapUpdate t a i y).run P w= .ok () w'∧Stp X ρ h w ρ' h' w':=by
 unfold updateV at hx
 split at hx
 ·rename_i q id k v h1 hq hval
  split at hx
  ·rename_i es bs clock ho
   split at hx
   ·rename_i hc
    simp only[Bool.and_eq_true]at hc
    simp only[Option.some.injEq,Prod.mk.injEq]at hx
    obtain⟨rfl,rfl⟩:=hx
    obtain⟨ht,hk⟩:=keyK_is hq
    obtain⟨st,hv,hflat⟩:=valM_sound hval H hy
    have ha1:=st.vrel ha
    have hi1:Rep (Mut X ρ h1) w i k:=st.vrel hi
    obtain⟨b,c,en,rfl,k2,e2,hget,ebs,e3⟩:=mapArg (P:=P) st.rel ha1 ho
    have hfind:=findKey_run hk hi1 e3 hc.1 hc.2
    have hchk:=checkKey_run (w:=w) (empty:=false) hk hi1 hc.1 9998
    refine⟨rfl, ?_⟩
    simp only[Instr.mapUpdate,Sem.run_bind,run_underlying ht,Result.andThen_ok,hget,hchk,hfind]
    rw[putM_loc]
    cases hl:locM es k with
    |none=>
     obtain⟨w',g1,g2⟩:=setMap (P:=P) (clock':=clock+1) (en':=en.push { key:=i,val:=y,born:=clock }) (es':=es++[(k,v)]) st.rel ho k2 e2 (by
      rw[Array.toList_push]
      exact e3.append (.cons ⟨hi1,hv,hflat⟩ .nil)) (bs':=bs++[clock]) (by simp[ebs])
     exact⟨ρ,w',by simpa using g1,st.trans H g2⟩
    |some j=>
     obtain⟨hj,hjk⟩:=locM_lt hl
     have hp:es[j]? =some ((es[j]).1,(es[j]).2):=by simp[hj]
     obtain⟨e,f1,f2,f3,f4⟩:=e3.get j _ _ hp
     have hek:(es[j]).1=k:=hjk _ hp
     rw[hek]at f2
     have hstay:=keyStays hc.1 f2 hi1
     have f1':en[j]? =some e:=by simpa using f1
     obtain⟨w',g1,g2⟩:=setMap (P:=P) (clock':=clock) (en':=en.modify j fun e=> { e with key:=i,val:=y }) (es':=es.set j (k,v)) st.rel ho k2 e2 (by
      rw[Array.toList_modify]
      exact e3.modify fun e he=>⟨hi1,hv,hflat⟩) (bs':=bs) (by rw[Array.toList_modify,← ebs];exact modify_map (f:=MapEntry.born) (g:=fun e=> { e with key:=i,val:=y }) (fun _=>rfl) _ _)
     refine⟨ρ,w', ?_,st.trans H g2⟩
     simp only[Option.bind_some,f1,Option.map_some,f1',Option.getD_some,Sem.run_bind,hstay,Result.andThen_ok]
     exact g1
   ·cases hx
  ·cases hx
 ·cases hx
end
end Go.Am
