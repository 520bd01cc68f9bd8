/- What the package-level variables hold that the statements list, as the machine knows them. -/
import Derived.Test.YtldceipbpilipaaGreatDoorRows
import Derived.ProofKit
import Derived.LaidMore
import Derived.OpenShut
import Derived.Stop.Joined
import Derived.Stop.LaidErr
import Derived.Shelf.Vars
import Derived.Test.YtldceipbpilipaaGreatDoorLaysB
set_option linter.all false
namespace Go.Am.Ab
open Go.Proofs Go.ChangeShapes Go.WideShapes Go.ChangeAt Go.RowKit
set_option maxRecDepth 100000
theorem laid_ints {P:Program} {n:String} {g len:Nat} {t e:TypeId} {k:IntKind} {ns:List Int} {W:World} {r:List (String × DataW Unit)} (hg:P.globalNamed n=some g) (ht:(P.globals[g]?).map (·.type)=some t)
 (hu:P.underlying t=some (.array len e)) (he:P.underlying e=some (.int k)) (h1:P.cellsOf e=1) (h2:P.cellsOf t=len) (h:laidMet P ((n,.agg (ns.map fun i=> .lit (.int k i)))::r) W) (hl:ns.length=len):
 (∀ (j:Nat) (i:Int),ns[j]? =some i→W.cell? ⟨g,j,none⟩=some (.int k i))∧W.cell? ⟨g,len,none⟩=none:=by
 obtain⟨ps,⟨g0,t0,cs0,f0,p0,q0,hg0,ht0,hv0,hd0,_,_⟩,_,_⟩:=h
 obtain rfl:=Option.some.inj (hg.symm.trans hg0)
 obtain rfl:=Option.some.inj (ht.symm.trans ht0)
 obtain⟨xs,m1,hf,hx1,hlen,hn3,hel⟩:=DataW.trod_array hu hd0
 refine⟨?_, ?_⟩
 ·simp only[Prod.mk.injEq,DataW.agg.injEq]at hx1
  intro j i hj
  have hjl:j<ns.length:=(List.getElem?_eq_some_iff.1 hj).1
  have hjx:j<xs.length:=by omega
  have h2:=hel j (by omega)
  rw[List.getElem?_eq_getElem hjx]at h2
  obtain⟨v,e1,e2,_⟩:=DataW.trod_int he h2
  have h3:=congrArg (fun l=>l[j]?) hx1.1
  simp only[List.getElem?_map,hj,List.getElem?_eq_getElem hjx,Option.map_some,e2,Option.some.injEq,DataW.lit.injEq,Lit.int.injEq,true_and]at h3
  subst h3
  rw[h1,Nat.mul_one]at e1
  have h4:cs0.toList[j]? =some (.int k i):=by
   have:=congrArg (fun l=>l[0]?) e1
   simpa[List.getElem?_take,List.getElem?_drop]using this
  rw[World.var?_cell hg hv0 j]
  simpa using h4
 ·rw[World.var?_cell hg hv0 len,Array.getElem?_eq_none]
  rw[h2]at hlen
  simpa using Nat.le_of_eq hlen
def laidL:List (String × DataW Unit):=YtldceipbpilipaaGreatDoor.Rows.linesAloneRow.laid
def halfI:List Int:=[0,498536548,997073096,651767980,1994146192,1802195444,1303535960,1342533948,3988292384,4027552580,3604390888,3412177804,2607071920,2262029012,2685067896,3183342108]
theorem ro_ints {M:Nat→Nat→Prop} {W:World} {g:Nat} {zs:List Int} {k:IntKind} (hM: ∀b j,¬ M b j) (hc: ∀ (j:Nat) (i:Int),zs[j]? =some i→W.cell? ⟨g,j,none⟩=some (.int k i)):RoVal M W (.pointer (some ⟨g,0,none⟩)) (zs.map fun z=>D.int k z):=by
 refine⟨g,0,fun j=> .int k (zs.getD j 0),rfl,fun j c hj=> ?_,fun j c hj=> ?_⟩
 ·rw[List.getElem?_map,Option.map_eq_some_iff]at hj
  obtain⟨i,h1,rfl⟩:=hj
  refine⟨?_,hM _ _,rfl⟩
  rw[Nat.zero_add,hc j i h1]
  simp[List.getD_eq_getElem?_getD,h1]
 ·rw[List.getElem?_map,Option.map_eq_some_iff]at hj
  obtain⟨i,h1,rfl⟩:=hj
  have:zs.getD j 0=i:=by simp[List.getD_eq_getElem?_getD,h1]
  simp only[this]
  exact .int _ _
theorem ro_one {M:Nat→Nat→Prop} {W:World} {g:Nat} {v:Value} {x:D} (hM: ∀b j,¬ M b j) (hc:W.cell? ⟨g,0,none⟩=some v) (hr:Rep M W v x) (hx:x.isCell=true):RoVal M W (.pointer (some ⟨g,0,none⟩)) [x]:=by
 refine⟨g,0,fun _=>v,rfl,fun j c hj=> ?_,fun j c hj=> ?_⟩
 ·match j with
  |0=>simp only[List.getElem?_cons_zero,Option.some.injEq]at hj;subst hj;exact⟨hc,hM _ _,hx⟩
  |j+1=>simp at hj
 ·match j with
  |0=>simp only[List.getElem?_cons_zero,Option.some.injEq]at hj;subst hj;exact hr
  |j+1=>simp at hj
theorem row_err (u : TypeId) (h : Tryz.prog.typeName? 3 u = some "*errors.errorString") : u = 524 :=
 typeName_ptr_named (nm := "errors.errorString") (by rw [show "*" ++ "errors.errorString" = "*errors.errorString" by decide]; kernel_rfl) (by kernel_rfl) (by decide) u (by rw [show "*" ++ "errors.errorString" = "*errors.errorString" by decide]; exact h)
theorem num_cell {W:World} (h:W.ShapedOpen Tryz.prog): ∃m,W.cell? ⟨0,0,none⟩=some (.int .i64 m):=
 cell_of_shapedOpen_int (zero:= #[.int .i64 0]) (t:=3) h (of_decide_eq_true (by kernel_rfl)) (by kernel_rfl) rfl (by kernel_rfl) (by kernel_rfl) Tryz.underlying3
theorem half_eq:halfD=halfI.map fun z=>D.int .u32 z:=by kernel_rfl
theorem grel25 {X:Nat→Nat→Prop} {W:World} (hX: ∀b j,¬ X b j) (h:laidMetH Tryz.prog laidL W) (hs:W.ShapedOpen Tryz.prog):GRel X G [] [] W:=by
 have hm:laidMet Tryz.prog laidL W:=by
  have:=h
  rwa [MakeChecks.laidMetH_plain _ _ _ (by kernel_rfl)]at this
 unfold laidL YtldceipbpilipaaGreatDoor.Rows.linesAloneRow at hm
 have h3:=hm.tail.tail
 have h4:=hm.tail.tail.tail
 have h5:=hm.tail.tail.tail.tail
 have h8:=hm.tail.tail.tail.tail.tail.tail.tail
 obtain⟨a1,s1,v1,-⟩:=laid_sentinel h3 (g:=4) (ti:=284) (tp:=524) (by kernel_rfl) (by kernel_rfl) Tryz.underlying284 row_err Tryz.underlying524 Tryz.underlying526 rfl rfl Tryz.underlying9 (by kernel_rfl) (by kernel_rfl)
 obtain⟨a2,s2,v2,-⟩:=laid_sentinel h4 (g:=5) (ti:=284) (tp:=524) (by kernel_rfl) (by kernel_rfl) Tryz.underlying284 row_err Tryz.underlying524 Tryz.underlying526 rfl rfl Tryz.underlying9 (by kernel_rfl) (by kernel_rfl)
 have c1 : W.cell? ⟨4, 0, none⟩ = some (.iface 524 (.pointer (some a1))) := by simpa using World.var?_cell (P := Tryz.prog) (n := "strconv.ErrSyntax") (g := 4) (by kernel_rfl) v1 0
 have c2 : W.cell? ⟨5, 0, none⟩ = some (.iface 524 (.pointer (some a2))) := by simpa using World.var?_cell (P := Tryz.prog) (n := "strconv.ErrRange") (g := 5) (by kernel_rfl) v2 0
 obtain ⟨p1, p2⟩ := laid_ints (P := Tryz.prog) (n := "internal/strconv.uint64pow10") (g := 1) (t := 461) (e := 22) (len := 20) (k := .u64) (ns := Lib.pow10Tab) (by kernel_rfl) (by kernel_rfl) (by kernel_rfl) (by kernel_rfl) (by kernel_rfl) (by kernel_rfl) h5 rfl
 obtain ⟨p3, -⟩ := laid_ints (P := Tryz.prog) (n := "catchment/crc.half") (g := 6) (t := 510) (e := 41) (len := 16) (k := .u32) (ns := halfI) (by kernel_rfl) (by kernel_rfl) (by kernel_rfl) (by kernel_rfl) (by kernel_rfl) (by kernel_rfl) h8 rfl
 obtain⟨m,c3⟩:=num_cell hs
 have hmut: ∀b j,¬ Mut X [] [] b j:=by
  rintro b j (h | ⟨id,c,o,h,_⟩)
  ·exact hX b j h
  ·simp at h
 have emp: ∀g,RoVal (Mut X [] []) W (.pointer (some ⟨g,0,none⟩)) []:=fun g=>⟨g,0,fun _=> .bool false,rfl,fun j c h=>by simp at h,fun j c h=>by simp at h⟩
 refine⟨fun g cs e=> ?_,fun g cs e h1 h2=> ?_⟩
 ·unfold G at e
  split at e
  ·split at e
   ·cases e;exact ro_one hmut c3 (.num _) rfl
   ·cases e;rw[pow_eq];exact ro_ints hmut p1
   ·cases e;exact ro_one hmut c1 (.err _ _) rfl
   ·cases e;exact ro_one hmut c2 (.err _ _) rfl
   ·cases e;rw[half_eq];exact ro_ints hmut p3
   ·cases e;exact emp _
   ·cases e
  ·split at e
   ·cases e;exact emp _
   ·cases e
 ·have hg0:g=1:=by
   unfold G at h2
   rw[if_pos (show 900+g<1000 by omega)]at h2
   split at h2 <;> first | omega | cases h2
  subst hg0
  cases e
  refine⟨?_,fun id c e=>by simp at e,p2⟩
  exact World.block_lt_of_cell? W ⟨1,0,none⟩ (p1 0 1 rfl)
end Go.Am.Ab
