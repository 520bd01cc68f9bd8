/- Events as data of their type. -/
import Derived.Test.YtldceipbpilipaaGreatDoorEvtC
import Derived.Test.YtldceipbpilipaaGreatDoorDecode
set_option linter.all false
namespace Go.Am.Ab
open Go.Proofs
structure CelI where
 kind : Int
 n : Int
 s : ByteArray
def CelI.d (c : CelI) : D := .agg [.int .u8 c.kind,.int .i64 c.n,.str c.s]
attribute [simp] CelI.d
def CelI.wf (c : CelI) : Prop := 0 ≤ c.kind ∧ c.kind ≤ 255 ∧ -9223372036854775808 ≤ c.n ∧ c.n ≤ 9223372036854775807 ∧ c.s.size ≤ maxLen
variable {m : Nat} {x : D}
theorem CelI.dec (h : HasTy Tryz.prog m 29 x) : ∃ a : CelI,x = a.d ∧ a.wf := by
 obtain ⟨ys,rfl,g⟩ := hasTy_struct h Tryz.underlying29
 obtain ⟨y0,ys,rfl,h0,g⟩ := all2_cons g
 obtain ⟨y1,ys,rfl,h1,g⟩ := all2_cons g
 obtain ⟨y2,ys,rfl,h2,g⟩ := all2_cons g
 have hn := all2_nil g
 subst hn
 obtain ⟨v0,rfl,h0v,h0w⟩ := dec_u8 h0 Tryz.underlying27
 obtain ⟨v1,rfl,h1v,h1w⟩ := dec_i64 h1 Tryz.underlying2
 obtain ⟨v2,rfl,h2w⟩ := hasTy_str h2 Tryz.underlying9
 refine ⟨⟨v0,v1,v2⟩,by simp, ?_⟩
 unfold CelI.wf
 simp only
 and_intros <;> (first | assumption | trivial)
theorem cel_dec (h : HasTy Tryz.prog m 29 x) : ∃ a : Cel,x = a.d ∧ celW a := by
 obtain ⟨⟨k,n,s⟩,rfl,h1,h2,h3,h4,h5⟩ := CelI.dec h
 simp only at h1 h2 h3 h4 h5
 refine ⟨⟨k.toNat,n,s⟩, ?_,by simp only; omega,by unfold maxLen at h5; exact h5⟩
 simp only [CelI.d,Cel.d,Int.toNat_of_nonneg h1]
theorem cells_dec (h : HasTy Tryz.prog m 26 x) : ∃ l : List Cel,x = .list (ce l) ∧ (∀ c ∈ l,celW c) := by
 obtain ⟨ys,rfl,hl,ha⟩ := hasTy_list h Tryz.underlying26
 obtain ⟨l,rfl,hw⟩ := list_of (f := Cel.d) (p := celW) (fun y hy => cel_dec (ha y hy))
 exact ⟨l,rfl,hw⟩
theorem evt_dec (h : HasTy Tryz.prog m 31 x) : ∃ a : Evt,x = a.d ∧ EvtI a := by
 obtain ⟨ys,rfl,g⟩ := hasTy_struct h Tryz.underlying31
 obtain ⟨y0,ys,rfl,h0,g⟩ := all2_cons g
 obtain ⟨y1,ys,rfl,h1,g⟩ := all2_cons g
 obtain ⟨y2,ys,rfl,h2,g⟩ := all2_cons g
 obtain ⟨y3,ys,rfl,h3,g⟩ := all2_cons g
 obtain ⟨y4,ys,rfl,h4,g⟩ := all2_cons g
 obtain ⟨y5,ys,rfl,h5,g⟩ := all2_cons g
 have hn := all2_nil g
 subst hn
 obtain ⟨v0,rfl,a0,b0⟩ := dec_u64 h0 Tryz.underlying22
 obtain ⟨v1,rfl,a1,b1⟩ := dec_u8 h1 Tryz.underlying5
 obtain ⟨v2,rfl,w2⟩ := cells_dec h2
 obtain ⟨v3,rfl,w3⟩ := cel_dec h3
 obtain ⟨v4,rfl,w4⟩ := hasTy_str h4 Tryz.underlying9
 obtain ⟨v5,rfl,a5,b5⟩ := dec_u8 h5 Tryz.underlying27
 exact ⟨⟨v0,v1,v2,v3,v4,v5⟩,by simp [Evt.d,Cel.d,D.cells],⟨w2,w3,a5,b5⟩⟩
theorem evts_dec (h : HasTy Tryz.prog m 25 x) : ∃ l : List Evt,x = .list (l.map Evt.d) ∧ (∀ e ∈ l,EvtI e) ∧ l.length ≤ maxLen := by
 obtain ⟨ys,rfl,hl,ha⟩ := hasTy_list h Tryz.underlying25
 obtain ⟨l,rfl,hw⟩ := list_of (f := Evt.d) (p := EvtI) (fun y hy => evt_dec (ha y hy))
 simp only [List.length_map] at hl
 exact ⟨l,rfl,hw,hl⟩
end Go.Am.Ab
