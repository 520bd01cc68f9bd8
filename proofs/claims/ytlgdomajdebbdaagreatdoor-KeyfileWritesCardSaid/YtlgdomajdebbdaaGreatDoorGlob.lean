/- What the table of the sum holds, and that it is laid so. -/
import Derived.Test.YtlgdomajdebbdaaGreatDoorRows
import Derived.ProofKit
import Derived.LaidMore
import Derived.OpenShut
import Derived.Stop.Joined
import Derived.Test.YtlgdomajdebbdaaGreatDoorValsA
set_option linter.all false
namespace Go.Am.Ab
open Go.Proofs Go.ChangeShapes Go.WideShapes Go.ChangeAt Go.RowKit
set_option maxRecDepth 100000
theorem laid_ints {P : Program} {n : String} {g len : Nat} {t e : TypeId} {k : IntKind} {ns : List Int} {W : World} (hg : P.globalNamed n = some g) (ht : (P.globals[g]?).map (·.type) = some t)
  (hu : P.underlying t = some (.array len e)) (he : P.underlying e = some (.int k)) (h1 : P.cellsOf e = 1) (h : laidMet P [(n,.agg (ns.map fun i => .lit (.int k i)))] W) (hl : ns.length = len) :
  ∀ (j : Nat) (i : Int),ns[j]? = some i → W.cell? ⟨g,j,none⟩ = some (.int k i) := by
 obtain ⟨ps,⟨g0,t0,cs0,f0,p0,q0,hg0,ht0,hv0,hd0,_,_⟩,_,_⟩ := h
 obtain rfl := Option.some.inj (hg.symm.trans hg0)
 obtain rfl := Option.some.inj (ht.symm.trans ht0)
 obtain ⟨xs,m1,hf,hx1,hlen,hn3,hel⟩ := DataW.trod_array hu hd0
 simp only [Prod.mk.injEq,DataW.agg.injEq] at hx1
 intro j i hj
 have hjl : j < ns.length := (List.getElem?_eq_some_iff.1 hj).1
 have hjx : j < xs.length := by omega
 have h2 := hel j (by omega)
 rw [List.getElem?_eq_getElem hjx] at h2
 obtain ⟨v,e1,e2,_⟩ := DataW.trod_int he h2
 have h3 := congrArg (fun l => l[j]?) hx1.1
 simp only [List.getElem?_map,hj,List.getElem?_eq_getElem hjx,Option.map_some,e2,Option.some.injEq,DataW.lit.injEq,Lit.int.injEq,true_and] at h3
 subst h3
 rw [h1,Nat.mul_one] at e1
 have h4 : cs0.toList[j]? = some (.int k i) := by
  have := congrArg (fun l => l[0]?) e1
  simpa [List.getElem?_take,List.getElem?_drop] using this
 rw [World.var?_cell hg hv0 j]
 simpa using h4
def laidL : List (String × DataW Unit) := [("catchment/crc.half", YtlgdomajdebbdaaGreatDoor.Rows.laid_catchment_crc_half)]
def halfI : List Int := [0,498536548,997073096,651767980,1994146192,1802195444,1303535960,1342533948,3988292384,4027552580,3604390888,3412177804,2607071920,2262029012,2685067896,3183342108]
theorem grel_half {X : Nat → Nat → Prop} {W : World} (hX : ∀ b j,¬ X b j) (h : laidMetH Tryz.prog laidL W) : GRel X G [] [] W := by
 have hm : laidMet Tryz.prog laidL W := by
  have := h
  rwa [MakeChecks.laidMetH_plain _ _ _ (by kernel_rfl)] at this
 have hc := laid_ints (P := Tryz.prog) (n := "catchment/crc.half") (g := 0) (t := 275) (e := 59) (len := 16) (k := .u32) (ns := halfI) (by kernel_rfl) (by kernel_rfl) (by kernel_rfl) (by kernel_rfl) (by kernel_rfl) hm rfl
 have hmut : ∀ b j,¬ Mut X [] [] b j := by
  rintro b j (h | ⟨id,c,o,h,_⟩)
  ·exact hX b j h
  ·simp at h
 intro g cs e
 unfold G at e
 split at e
 ·rename_i h0
  subst h0
  simp only [Option.some.injEq] at e
  subst e
  have hh : ∀ (j : Nat) (c : D),halfD[j]? = some c → ∃ i,halfI[j]? = some i ∧ c = .int .u32 i := by
   intro j c hj
   have e2 : halfD = halfI.map (D.int .u32) := rfl
   rw [e2,List.getElem?_map,Option.map_eq_some_iff] at hj
   obtain ⟨i,h1,h2⟩ := hj
   exact ⟨i,h1,h2.symm⟩
  refine ⟨0,0,fun j => .int .u32 (halfI.getD j 0),rfl,fun j c hj => ?_,fun j c hj => ?_⟩
  ·obtain ⟨i,h1,rfl⟩ := hh j c hj
   refine ⟨?_,hmut _ _,rfl⟩
   rw [Nat.zero_add,hc j i h1]
   simp [List.getD_eq_getElem?_getD,h1]
  ·obtain ⟨i,h1,rfl⟩ := hh j c hj
   have : halfI.getD j 0 = i := by simp [List.getD_eq_getElem?_getD,h1]
   simp only [this]
   exact .int _ _
 ·split at e
  ·have e3 := Option.some.inj e
   subst e3
   exact ⟨g,0,fun _ => .bool false,rfl,fun j c h => by simp at h,fun j c h => by simp at h⟩
  ·cases e
end Go.Am.Ab
