/- Data of the types of the program. -/
import Derived.Test.YtlgdomajdebbdaaGreatBase
import Derived.Test.YtlgdomajdebbdaaGreatShapes
set_option linter.all false
namespace Go.Am.Ab
open Go.Proofs
def Fld.wf (f : Fld) : Prop := 0 ≤ f.id ∧ f.id ≤ 4294967295 ∧ 0 ≤ f.kind ∧ f.kind ≤ 255 ∧ f.name.size ≤ maxLen
def Sch.wf (s : Sch) : Prop := 0 ≤ s.id ∧ s.id ≤ 4294967295 ∧ s.fields.length ≤ maxLen ∧ ∀ f ∈ s.fields,f.wf
def Snap.wf (s : Snap) : Prop := (0 ≤ s.id ∧ s.id ≤ 18446744073709551615) ∧ (0 ≤ s.parent ∧ s.parent ≤ 18446744073709551615) ∧ (0 ≤ s.seq ∧ s.seq ≤ 18446744073709551615) ∧ (0 ≤ s.offset ∧ s.offset ≤ 18446744073709551615) ∧
 (0 ≤ s.time ∧ s.time ≤ 18446744073709551615) ∧ (0 ≤ s.schema ∧ s.schema ≤ 4294967295) ∧ s.mans.length ≤ maxLen ∧ ∀ n ∈ s.mans,n.size ≤ maxLen
def Tab.wf (t : Tab) : Prop := t.schemas.length ≤ maxLen ∧ (∀ s ∈ t.schemas,s.wf) ∧ t.snaps.length ≤ maxLen ∧ (∀ s ∈ t.snaps,s.wf) ∧ 0 ≤ t.current ∧ t.current ≤ 18446744073709551615
def Pol.wf (p : Pol) : Prop := -9223372036854775808 ≤ p.keep ∧ p.keep ≤ 9223372036854775807 ∧ 0 ≤ p.age ∧ p.age ≤ 18446744073709551615
theorem G_nil : ∀ i cs,G i = some cs → cs = [] := by
 intro i cs h
 unfold G at h
 split at h
 ·simpa using h.symm
 ·cases h
variable {m : Nat} {x : D}
theorem dec_i64 {t : TypeId} (h : HasTy Tryz.prog m t x) (ht : Tryz.prog.underlying t = some (.int .i64)) : ∃ i : Int,x = .int .i64 i ∧ -9223372036854775808 ≤ i ∧ i ≤ 9223372036854775807 := by
 have := hasTy_int h ht; rwa [min_i64,max_i64] at this
theorem dec_u8 {t : TypeId} (h : HasTy Tryz.prog m t x) (ht : Tryz.prog.underlying t = some (.int .u8)) : ∃ i : Int,x = .int .u8 i ∧ 0 ≤ i ∧ i ≤ 255 := by
 have := hasTy_int h ht; rwa [min_u8,max_u8] at this
theorem dec_bytes {t e : TypeId} (h : HasTy Tryz.prog m t x) (ht : Tryz.prog.underlying t = some (.slice e)) (he : Tryz.prog.underlying e = some (.int .u8)) : ∃ b : List UInt8,x = .list (b.map byteD) ∧ b.length ≤ maxLen := by
 obtain ⟨ys,rfl,hl,ha⟩ := hasTy_list h ht
 obtain ⟨b,rfl,_⟩ := list_of (f := byteD) (p := fun _ => True) (fun y hy => by
  obtain ⟨i,rfl,h1,h2⟩ := dec_u8 (ha y hy) he
  refine ⟨UInt8.ofNat i.toNat, ?_,trivial⟩
  rw [byteD_eq]
  rw [UInt8.toNat_ofNat']
  omega)
 exact ⟨b,rfl,by simpa using hl⟩
end Go.Am.Ab
