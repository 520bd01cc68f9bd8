/- Data of the types of the program. -/
import Derived.Test.YtldceipbpilipaaGreatDoorBase
import Derived.Test.YtldceipbpilipaaGreatDoorShapes
set_option linter.all false
namespace Go.Am.Ab
open Go.Proofs
def Fld.wf (f:Fld):Prop:=0≤f.id∧f.id≤4294967295∧0≤f.kind∧f.kind≤255∧f.name.size≤maxLen
def Sch.wf (s:Sch):Prop:=0≤s.id∧s.id≤4294967295∧s.fields.length≤maxLen∧ ∀f∈s.fields,f.wf
def Snap.wf (s:Snap):Prop:=(0≤s.id∧s.id≤18446744073709551615)∧(0≤s.parent∧s.parent≤18446744073709551615)∧(0≤s.seq∧s.seq≤18446744073709551615)∧(0≤s.offset∧s.offset≤18446744073709551615)∧
 (0≤s.time∧s.time≤18446744073709551615)∧(0≤s.schema∧s.schema≤4294967295)∧s.mans.length≤maxLen∧ ∀n∈s.mans,n.size≤maxLen
def Tab.wf (t:Tab):Prop:=t.schemas.length≤maxLen∧(∀s∈t.schemas,s.wf)∧t.snaps.length≤maxLen∧(∀s∈t.snaps,s.wf)∧0≤t.current∧t.current≤18446744073709551615
def Pol.wf (p:Pol):Prop:= -9223372036854775808≤p.keep∧p.keep≤9223372036854775807∧0≤p.age∧p.age≤18446744073709551615
variable {m:Nat} {x:D}
theorem dec_i64 {t:TypeId} (h:HasTy Tryz.prog m t x) (ht:Tryz.prog.underlying t=some (.int .i64)): ∃i:Int,x= .int .i64 i∧ -9223372036854775808≤i∧i≤9223372036854775807:=by
 have:=hasTy_int h ht;rwa [min_i64,max_i64]at this
theorem dec_u64 {t:TypeId} (h:HasTy Tryz.prog m t x) (ht:Tryz.prog.underlying t=some (.int .u64)): ∃i:Int,x= .int .u64 i∧0≤i∧i≤18446744073709551615:=by
 have:=hasTy_int h ht;rwa [min_u64,max_u64]at this
theorem dec_u32 {t:TypeId} (h:HasTy Tryz.prog m t x) (ht:Tryz.prog.underlying t=some (.int .u32)): ∃i:Int,x= .int .u32 i∧0≤i∧i≤4294967295:=by
 have:=hasTy_int h ht;rwa [min_u32,max_u32]at this
theorem dec_u8 {t:TypeId} (h:HasTy Tryz.prog m t x) (ht:Tryz.prog.underlying t=some (.int .u8)): ∃i:Int,x= .int .u8 i∧0≤i∧i≤255:=by
 have:=hasTy_int h ht;rwa [min_u8,max_u8]at this
theorem Fld.dec (h:HasTy Tryz.prog m 93 x): ∃a:Fld,x=a.d∧a.wf:=by
 obtain⟨ys,rfl,g⟩:=hasTy_struct h Tryz.underlying93
 obtain⟨y0,ys,rfl,h0,g⟩:=all2_cons g
 obtain⟨y1,ys,rfl,h1,g⟩:=all2_cons g
 obtain⟨y2,ys,rfl,h2,g⟩:=all2_cons g
 obtain⟨y3,ys,rfl,h3,g⟩:=all2_cons g
 have hn:=all2_nil g
 subst hn
 obtain⟨v0,rfl,h0v,h0w⟩:=dec_u32 h0 Tryz.underlying41
 obtain⟨v1,rfl,h1w⟩:=hasTy_str h1 Tryz.underlying9
 obtain⟨v2,rfl,h2v,h2w⟩:=dec_u8 h2 Tryz.underlying27
 obtain⟨v3,rfl⟩:=hasTy_bool h3 Tryz.underlying4
 refine⟨⟨v0,v1,v2,v3⟩,by simp, ?_⟩
 unfold Fld.wf
 simp only
 and_intros <;> (first | assumption | trivial)
theorem Sch.dec (h:HasTy Tryz.prog m 44 x): ∃a:Sch,x=a.d∧a.wf:=by
 obtain⟨ys,rfl,g⟩:=hasTy_struct h Tryz.underlying44
 obtain⟨y0,ys,rfl,h0,g⟩:=all2_cons g
 obtain⟨y1,ys,rfl,h1,g⟩:=all2_cons g
 have hn:=all2_nil g
 subst hn
 obtain⟨v0,rfl,h0v,h0w⟩:=dec_u32 h0 Tryz.underlying41
 obtain⟨v1,rfl,h1l,h1a⟩:=hasTy_list h1 Tryz.underlying42
 obtain⟨v1,rfl,h1w⟩:=list_of (f:=Fld.d) (p:=Fld.wf) (fun y hy=>Fld.dec (h1a y hy))
 simp only[List.length_map]at h1l
 refine⟨⟨v0,v1⟩,by simp, ?_⟩
 unfold Sch.wf
 simp only
 and_intros <;> (first | assumption | trivial)
theorem Snap.dec (h:HasTy Tryz.prog m 83 x): ∃a:Snap,x=a.d∧a.wf:=by
 obtain⟨ys,rfl,g⟩:=hasTy_struct h Tryz.underlying83
 obtain⟨y0,ys,rfl,h0,g⟩:=all2_cons g
 obtain⟨y1,ys,rfl,h1,g⟩:=all2_cons g
 obtain⟨y2,ys,rfl,h2,g⟩:=all2_cons g
 obtain⟨y3,ys,rfl,h3,g⟩:=all2_cons g
 obtain⟨y4,ys,rfl,h4,g⟩:=all2_cons g
 obtain⟨y5,ys,rfl,h5,g⟩:=all2_cons g
 obtain⟨y6,ys,rfl,h6,g⟩:=all2_cons g
 have hn:=all2_nil g
 subst hn
 obtain⟨v0,rfl,h0v,h0w⟩:=dec_u64 h0 Tryz.underlying22
 obtain⟨v1,rfl,h1v,h1w⟩:=dec_u64 h1 Tryz.underlying22
 obtain⟨v2,rfl,h2v,h2w⟩:=dec_u64 h2 Tryz.underlying22
 obtain⟨v3,rfl,h3v,h3w⟩:=dec_u64 h3 Tryz.underlying22
 obtain⟨v4,rfl,h4v,h4w⟩:=dec_u64 h4 Tryz.underlying22
 obtain⟨v5,rfl,h5v,h5w⟩:=dec_u32 h5 Tryz.underlying41
 obtain⟨v6,rfl,h6l,h6a⟩:=hasTy_list h6 Tryz.underlying81
 obtain⟨v6,rfl,h6w⟩:=list_of (f:=D.str) (p:=fun s=>s.size≤maxLen) (fun y hy=>hasTy_str (h6a y hy) Tryz.underlying9)
 simp only[List.length_map]at h6l
 refine⟨⟨v0,v1,v2,v3,v4,v5,v6⟩,by simp, ?_⟩
 unfold Snap.wf
 simp only
 and_intros <;> (first | assumption | trivial)
theorem Tab.dec (h:HasTy Tryz.prog m 74 x): ∃a:Tab,x=a.d∧a.wf:=by
 obtain⟨ys,rfl,g⟩:=hasTy_struct h Tryz.underlying74
 obtain⟨y0,ys,rfl,h0,g⟩:=all2_cons g
 obtain⟨y1,ys,rfl,h1,g⟩:=all2_cons g
 obtain⟨y2,ys,rfl,h2,g⟩:=all2_cons g
 have hn:=all2_nil g
 subst hn
 obtain⟨v0,rfl,h0l,h0a⟩:=hasTy_list h0 Tryz.underlying71
 obtain⟨v0,rfl,h0w⟩:=list_of (f:=Sch.d) (p:=Sch.wf) (fun y hy=>Sch.dec (h0a y hy))
 simp only[List.length_map]at h0l
 obtain⟨v1,rfl,h1l,h1a⟩:=hasTy_list h1 Tryz.underlying72
 obtain⟨v1,rfl,h1w⟩:=list_of (f:=Snap.d) (p:=Snap.wf) (fun y hy=>Snap.dec (h1a y hy))
 simp only[List.length_map]at h1l
 obtain⟨v2,rfl,h2v,h2w⟩:=dec_u64 h2 Tryz.underlying22
 refine⟨⟨v0,v1,v2⟩,by simp, ?_⟩
 unfold Tab.wf
 simp only
 and_intros <;> (first | assumption | trivial)
theorem Pol.dec (h:HasTy Tryz.prog m 272 x): ∃a:Pol,x=a.d∧a.wf:=by
 obtain⟨ys,rfl,g⟩:=hasTy_struct h Tryz.underlying272
 obtain⟨y0,ys,rfl,h0,g⟩:=all2_cons g
 obtain⟨y1,ys,rfl,h1,g⟩:=all2_cons g
 have hn:=all2_nil g
 subst hn
 obtain⟨v0,rfl,h0v,h0w⟩:=dec_i64 h0 Tryz.underlying3
 obtain⟨v1,rfl,h1v,h1w⟩:=dec_u64 h1 Tryz.underlying22
 refine⟨⟨v0,v1⟩,by simp, ?_⟩
 unfold Pol.wf
 simp only
 and_intros <;> (first | assumption | trivial)
end Go.Am.Ab
