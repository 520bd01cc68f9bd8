/- What data of a type look like. -/
import Derived.Test.YtldceipbpilipaaGreatDoorMachD
set_option linter.all false
namespace Go.Am
section
variable {P:Program} {m:Nat} {t:TypeId} {x:D}
theorem hasTy_int {k:IntKind} (hm:HasTy P m t x) (ht:P.underlying t=some (.int k)): ∃i,x= .int k i∧k.min≤i∧i≤k.max:=by
 cases m with
 |zero=>exact hm.elim
 |succ m=>
  simp only[HasTy,ht]at hm
  obtain⟨i,rfl,h⟩:=hm
  simp only[Lit.wf,Bool.and_eq_true,decide_eq_true_eq]at h
  exact⟨i,rfl,h.1,h.2⟩
theorem hasTy_bool (hm:HasTy P m t x) (ht:P.underlying t=some .bool): ∃b,x= .bool b:=by
 cases m with
 |zero=>exact hm.elim
 |succ m=>simpa only[HasTy,ht]using hm
theorem hasTy_str (hm:HasTy P m t x) (ht:P.underlying t=some .string): ∃s:ByteArray,x= .str s∧s.size≤maxLen:=by
 cases m with
 |zero=>exact hm.elim
 |succ m=>simpa only[HasTy,ht]using hm
theorem hasTy_list {e:TypeId} (hm:HasTy P m t x) (ht:P.underlying t=some (.slice e)): ∃xs,x= .list xs∧xs.length≤maxLen∧ ∀y∈xs,HasTy P (m - 1) e y:=by
 cases m with
 |zero=>exact hm.elim
 |succ m=>simp only[HasTy,ht]at hm;exact hm
theorem hasTy_struct {fs:Array Field} (hm:HasTy P m t x) (ht:P.underlying t=some (.struct fs)): ∃ys:List D,x= .agg (ys.flatMap D.cells)∧All2 (fun f y=>HasTy P (m - 1) f.type y) fs.toList ys:=by
 cases m with
 |zero=>exact hm.elim
 |succ m=>simp only[HasTy,ht]at hm;exact hm
theorem all2_nil {α β:Type} {R:α→β→Prop} {bs:List β} (h:All2 R [] bs):bs=[]:=by cases h;rfl
theorem all2_cons {α β:Type} {R:α→β→Prop} {a:α} {as:List α} {bs:List β} (h:All2 R (a::as) bs): ∃b cs,bs=b::cs∧R a b∧All2 R as cs:=by
 cases h with
 |cons h1 h2=>exact⟨_,_,rfl,h1,h2⟩
theorem list_of {α:Type} {f:α→D} {p:α→Prop}: ∀ {xs:List D},(∀y∈xs, ∃a,y=f a∧p a)→ ∃l:List α,xs=l.map f∧ ∀a∈l,p a
 |[],_=>⟨[],rfl,by simp⟩
 |x::xs,h=>by
  obtain⟨a,rfl,ha⟩:=h x (by simp)
  obtain⟨l,rfl,hl⟩:=list_of (xs:=xs) fun y hy=>h y (by simp[hy])
  exact⟨a::l,rfl,fun b hb=>by
   rcases List.mem_cons.1 hb with rfl | hb
   ·exact ha
   ·exact hl b hb⟩
end
theorem min_i64:IntKind.min .i64= -9223372036854775808:=by decide
theorem max_i64:IntKind.max .i64=9223372036854775807:=by decide
theorem min_u64:IntKind.min .u64=0:=by decide
theorem max_u64:IntKind.max .u64=18446744073709551615:=by decide
theorem min_u32:IntKind.min .u32=0:=by decide
theorem max_u32:IntKind.max .u32=4294967295:=by decide
theorem min_u8:IntKind.min .u8=0:=by decide
theorem max_u8:IntKind.max .u8=255:=by decide
end Go.Am
