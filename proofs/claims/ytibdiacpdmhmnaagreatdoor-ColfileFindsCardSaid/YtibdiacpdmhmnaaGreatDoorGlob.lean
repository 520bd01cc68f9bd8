/- What the table of the sum holds, and that it is laid so. -/
import Derived.Test.YtibdiacpdmhmnaaGreatDoorRows
import Derived.ProofKit
import Derived.LaidMore
import Derived.OpenShut
import Derived.Stop.Joined
import Derived.Test.YtibdiacpdmhmnaaGreatDoorValsA
set_option linter.all false
namespace Go.Am.Ab
open Go.Proofs Go.ChangeShapes Go.WideShapes Go.ChangeAt Go.RowKit
set_option maxRecDepth 100000
def zwU {P:Program} {n:String} {g len:Nat} {t e:TypeId} {k:IntKind} {ns:List Int} {W:World} (hg:P.globalNamed n=some g) (ht:(P.globals[g]?).map (·.type)=some t)
 (hu:P.underlying t=some (.array len e)) (he:P.underlying e=some (.int k)) (h1:P.cellsOf e=1) (h:laidMet P [(n,.agg (ns.map λi=> .lit (.int k i)))] W) (hl:ns.length=len):
 ∀ (j:Nat) (i:Int),ns[j]? =some i->W.cell? ⟨g,j,none⟩=some (.int k i):=by
 obtain⟨ps,⟨g0,t0,cs0,f0,p0,q0,hg0,ht0,hv0,hd0,_,_⟩,_,_⟩:=h;obtain rfl:=yaN (hg.symm.trans hg0);obtain rfl:=yaN (ht.symm.trans ht0);obtain⟨xs,m1,hf,hx1,hlen,hn3,hel⟩:=DataW.trod_array hu hd0;simp only[yad,DataW.agg.injEq]at hx1;intro j i hj;have hjl:j<ns.length:=(List.getElem?_eq_some_iff.1 hj).1;have hjx:j<xs.length:=by omega
 have h2:=hel j (by omega)
 rw[yak hjx]at h2;obtain⟨v,e1,e2,_⟩:=DataW.trod_int he h2;have h3:=congrArg (λl=>l[j]?) hx1.1
 simp only[yau,hj,yak hjx,yaM,e2,yaa,DataW.lit.injEq,Lit.int.injEq,true_and]at h3;subst h3;rw[h1,yb9]at e1;have h4:cs0.toList[j]? =some (.int k i):=by
  have:=congrArg (λl=>l[0]?) e1
  simpa[yaU,ya1]using this
 rw[World.var?_cell hg hv0 j];simpa using h4
def zuc : List (String × DataW Unit) := [("catchment/crc.half", YtibdiacpdmhmnaaGreatDoor.Rows.laid_catchment_crc_half)]
def zwV:List Int:=[0,498536548,997073096,651767980,1994146192,1802195444,1303535960,1342533948,3988292384,4027552580,3604390888,3412177804,2607071920,2262029012,2685067896,3183342108]
def zwW {X:Nat->Nat->Prop} {W:World} (hX: ∀b j,¬ X b j) (h:laidMetH Tryz.prog zuc W):GRel X G [] [] W:=by
 have hm:laidMet Tryz.prog zuc W:=by
  have:=h
  rwa [MakeChecks.laidMetH_plain _ _ _ (by kernel_rfl)]at this
 have hc := zwU (P := Tryz.prog) (n := "catchment/crc.half") (g := 0) (t := 217) (e := 22) (len := 16) (k := .u32) (ns := zwV) (by kernel_rfl) (by kernel_rfl) (by kernel_rfl) (by kernel_rfl) (by kernel_rfl) hm rfl
 have hmut: ∀b j,¬ Mut X [] [] b j:=by
  rintro b j (h | ⟨id,c,o,h,_⟩)
  ·exact hX b j h
  ·simp at h
 intro g cs e;unfold G at e;split at e
 ·rename_i h0
  subst h0;simp only[yaa]at e;subst e;have hh: ∀ (j:Nat) (c:D),zpX[j]? =some c-> ∃i,zwV[j]? =some i/\c= .int .u32 i:=by
   intro j c hj;have e2:zpX=zwV.map (D.int .u32):=rfl;rw[e2,yau,yab]at hj;obtain⟨i,h1,h2⟩:=hj;exact⟨i,h1,h2.symm⟩
  refine⟨0,0,λj=> .int .u32 (zwV.getD j 0),rfl,λj c hj=> ?_,λj c hj=> ?_⟩
  ·obtain⟨i,h1,rfl⟩:=hh j c hj
   refine⟨?_,hmut _ _,rfl⟩;rw[yaX,hc j i h1];simp[yas,h1]
  ·obtain⟨i,h1,rfl⟩:=hh j c hj
   have:zwV.getD j 0=i:=by simp[yas,h1]
   simp only[this];exact .int _ _
 ·split at e
  ·have e3:=yaN e
   subst e3;exact⟨g,0,λ_=> .bool false,rfl,λj c h=>by simp at h,λj c h=>by simp at h⟩
  ·cases e
end Go.Am.Ab
