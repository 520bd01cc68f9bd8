/- A sink that has not flushed. -/
import Derived.Test.YtldceipbpilipaaGreatDoorEvtA
set_option linter.all false
namespace Go.Am.Ab
open Go.Proofs
def wg (c : Cel) : Int := if c.kind = 1 then 8 else if c.kind = 3 then (c.s.size : Int) + 1 else 1
def wgs (l : List Cel) : Int := l.foldl (fun a c => a + wg c) 0
theorem wgs_more {l : List Cel} {i : Nat} (h : i < l.length) : wgs (l.take (i + 1)) = wgs (l.take i) + wg l[i] := by
 unfold wgs; rw [List.take_succ_eq_append_getElem h,List.foldl_append]; rfl
theorem wg_le {c : Cel} {k : Nat} (h : c.s.size ≤ k) (hk : 7 ≤ k) : 1 ≤ wg c ∧ wg c ≤ k + 1 := by unfold wg; split; omega; split <;> omega
theorem wgs_le {k : Nat} (hk : 7 ≤ k) : ∀ (l : List Cel) (a : Int),(∀ c ∈ l,c.s.size ≤ k) → a ≤ l.foldl (fun a c => a + wg c) a ∧ l.foldl (fun a c => a + wg c) a ≤ a + (k + 1) * l.length
 | [],a,_ => by simp
 | c :: r,a,h => by
  have h1 := wg_le (h c (by simp)) hk
  have h2 := wgs_le hk r (a + wg c) fun d hd => h d (List.mem_cons_of_mem _ hd)
  simp only [List.foldl_cons,List.length_cons]
  rw [show ((r.length + 1 : Nat) : Int) = (r.length : Int) + 1 by omega,Int.mul_add,Int.mul_one]
  omega
def EsG (es : List (D × V)) : Prop := ∀ p ∈ es, ∃ c : Cel,p.1 = c.d
def catD : D := .list [.agg [.int .u32 1,.list [.agg [.int .u32 1,.str ⟨#[105,100]⟩,.int .u8 1,.bool true],.agg [.int .u32 2,.str ⟨#[110,97,109,101]⟩,.int .u8 3,.bool false]]]]
def tabN : D := .str ⟨#[116,49]⟩
def catB (k : Nat) : Obj := .box [.ptr k 0,.d catD,.nilS,.d (.int .u64 0),.d tabN]
def stoB (k : Nat) : Obj := .box [.d (.int .i64 4000000),.d (.int .i64 25),.mp k,.d tabN,.d (.int .i64 (-1)),.d (.int .i64 (-1)),.d (.bool false)]
def stoE : List (D × V) := [(tabN,.d (.agg [.list ([84,70,49,1,1,2,1,2,105,100,1,1,2,4,110,97,109,101,3,0,0,188,221,57,89].map fun (n : Nat) => .int .u8 n),.bool false]))]
def stoM : Obj := .map stoE [0] 1
def twoX : List D := [.agg [.int .u32 1,.str ⟨#[105,100]⟩,.int .u8 1,.bool true],.agg [.int .u32 2,.str ⟨#[110,97,109,101]⟩,.int .u8 3,.bool false]]
def snkB (cat map : Nat) (tk gp sid : Int) (X : List D) (tak wgt : Int) (fv : V) : Obj :=
 .box [.ptr cat 0,.d (.int .i64 64),.d (.int .i64 1000000),.d (.int .u64 tk),.d (.int .i64 gp),.d (.int .u32 1),.d (.list twoX),.d (.int .u32 sid),.d (.list X),.d (.int .u64 0),.d (.int .u64 tak),.d (.int .u64 0),.d (.int .u64 0),.d (.int .i64 wgt),.mp map,fv]
def snkH (tk gp sid : Int) (X : List D) (tak wgt : Int) (es : List (D × V)) (bs : List Nat) (ck : Nat) : List D → List Obj
 | [] => [snkB 1 2 tk gp sid X tak wgt .nilS,catB 3,.map es bs ck,stoB 4,stoM]
 | f :: F => [snkB 1 2 tk gp sid X tak wgt (.arr 3 (F.length + 1)),catB 4,.map es bs ck,.arr 4 (f :: F) 0,stoB 5,stoM]
def snkW (tk gp sid : Int) (X : List D) (tak wgt : Int) (es : List (D × V)) (bs : List Nat) (ck : Nat) (f : D) : List Obj := [snkB 1 2 tk gp sid X tak wgt (.arr 5 1),catB 3,.map es bs ck,stoB 4,stoM,.arr 4 [f] 0]
theorem rg5 : List.range 5 = [0,1,2,3,4] := rfl
theorem rg6 : List.range 6 = [0,1,2,3,4,5] := rfl
end Go.Am.Ab
namespace Go.Am.Ab
open Go.Proofs
set_option maxHeartbeats 8000000
set_option maxRecDepth 4000
theorem weigh_runs (c : Cel) (h : c.s.size < 1000000) : R 86 [.d c.d] [] = some ([.d (.int .i64 (wg c))],[]) := by
 obtain ⟨k,n,s⟩ := c
 unfold wg
 simp only [Cel.d] at h ⊢
 by_cases h1 : k = 1
 ·subst h1
  refine run_goal (rs:=[.tmp 2]) (ts:=[3]) Tryz.func86 rfl rfl rfl (by kernel_rfl) (by kernel_rfl) (.inl sp_86) (by simp [Tryz.f86]) ?_
  intro T hT
  simp -dsimp -implicitDefEqProofs (disch:=first|omega|assumption) [startSlots,nI,wI]
  simpa -dsimp -implicitDefEqProofs (disch:=first|omega|assumption) [nI,wI] using hT
 by_cases h3 : k = 3
 ·subst h3
  refine run_goal (rs:=[.tmp 2]) (ts:=[3]) Tryz.func86 rfl rfl rfl (by kernel_rfl) (by kernel_rfl) (.inl sp_86) (by simp [Tryz.f86]) ?_
  intro T hT
  simp -dsimp -implicitDefEqProofs (disch:=first|omega|assumption) [startSlots,nI,wI]
  simpa -dsimp -implicitDefEqProofs (disch:=first|omega|assumption) [nI,wI] using hT
 ·have h1' : ¬ (k : Int) = 1 := by omega
  have h3' : ¬ (k : Int) = 3 := by omega
  refine run_goal (rs:=[.tmp 2]) (ts:=[3]) Tryz.func86 rfl rfl rfl (by kernel_rfl) (by kernel_rfl) (.inl sp_86) (by simp [Tryz.f86]) ?_
  intro T hT
  simp -dsimp -implicitDefEqProofs (disch:=first|omega|assumption) [startSlots,nI,wI,h1,h1',h3,h3']
  simpa -dsimp -implicitDefEqProofs (disch:=first|omega|assumption) [nI,wI,h1,h3] using hT
def mapPut (es : List (D × V)) (bs : List Nat) (ck : Nat) (k : D) (v : V) : Obj := match locM es k with | some _ => .map (putM es k v) bs ck | none => .map (putM es k v) (bs ++ [ck]) (ck + 1)
theorem putM_good {c : Cel} {v : V} : ∀ {es : List (D × V)},EsG es → EsG (putM es c.d v)
 | [],_ => fun p hp => by simp only [putM,List.mem_singleton] at hp; exact ⟨c,by rw [hp]⟩
 | (k',v') :: r,h => fun p hp => by
  simp only [putM] at hp
  split at hp
  ·rcases List.mem_cons.1 hp with rfl | hp
   ·exact ⟨c,rfl⟩
   ·exact h p (List.mem_cons_of_mem _ hp)
  ·rcases List.mem_cons.1 hp with rfl | hp
   ·exact h _ (by simp)
   ·exact putM_good (fun q hq => h q (List.mem_cons_of_mem _ hq)) p hp
theorem mapPut_is {es : List (D × V)} (bs : List Nat) (ck : Nat) (c : Cel) (v : V) (h : EsG es) : ∃ es' bs' ck',mapPut es bs ck c.d v = .map es' bs' ck' ∧ EsG es' := by
 unfold mapPut
 split
 ·exact ⟨_,_,_,rfl,putM_good h⟩
 ·exact ⟨_,_,_,rfl,putM_good h⟩
theorem key_map : keyK Tryz.prog 86 = some (1,29,159) := by kernel_rfl
theorem flat_cel : flat1 Tryz.prog 29 = some [(0,0),(1,0),(2,2)] := by kernel_rfl
theorem keyE_cel (c d : Cel) : keyE Tryz.prog (1,29,159) c.d d.d = true := by
 obtain ⟨k,n,s⟩ := c
 obtain ⟨k',n',s'⟩ := d
 simp only [Cel.d,keyE,flat_cel]
 simp [List.range_succ,eqCells,eqCell,eqbL,D.eqb,str_beq]
theorem allE_cel {es : List (D × V)} (c : Cel) (h : EsG es) : es.all (fun p => keyE Tryz.prog (1,29,159) c.d p.1) = true := by
 rw [List.all_eq_true]
 intro p hp
 obtain ⟨d,e⟩ := h p hp
 rw [e]
 exact keyE_cel c d
theorem upd_nil {es : List (D × V)} {bs : List Nat} {ck : Nat} {o0 o1 : Obj} {r : List Obj} {k : Nat} {n : Int} {s : ByteArray} (h : EsG es) :
  updateV Tryz.prog (o0 :: o1 :: .map es bs ck :: r) 86 (.mp 2) (.d (.agg [.int .u8 k,.int .i64 n,.str s])) .nilS = some (.tup [],o0 :: o1 :: mapPut es bs ck (.agg [.int .u8 k,.int .i64 n,.str s]) .nilS :: r) := by
 have h1 := keyE_cel ⟨k,n,s⟩ ⟨k,n,s⟩
 have h2 := allE_cel ⟨k,n,s⟩ h
 simp only [Cel.d] at h1 h2
 unfold updateV
 simp only [key_map,valM,List.getElem?_cons_succ,List.getElem?_cons_zero,h1,h2,Bool.and_self,if_true,List.set_cons_succ,List.set_cons_zero]
 rfl
theorem upd_6 {es : List (D × V)} {bs : List Nat} {ck : Nat} {o0 o1 o3 o4 o5 : Obj} {r : List Obj} {k : Nat} {n : Int} {s : ByteArray} {xs : List D} {w m : Nat} (h : EsG es) (hm : m = xs.length) :
  updateV Tryz.prog (o0 :: o1 :: .map es bs ck :: o3 :: o4 :: o5 :: .arr 1 xs w :: r) 86 (.mp 2) (.d (.agg [.int .u8 k,.int .i64 n,.str s])) (.arr 6 m) = some (.tup [],o0 :: o1 :: mapPut es bs ck (.agg [.int .u8 k,.int .i64 n,.str s]) (.d (.list xs)) :: o3 :: o4 :: o5 :: .arr 1 xs xs.length :: r) := by
 have h1 := keyE_cel ⟨k,n,s⟩ ⟨k,n,s⟩
 have h2 := allE_cel ⟨k,n,s⟩ h
 simp only [Cel.d] at h1 h2
 subst hm
 unfold updateV
 simp only [key_map,valM,pureV,pure1,Option.map_some,if_true,List.getElem?_cons_succ,List.getElem?_cons_zero,h1,h2,Bool.and_self,List.set_cons_succ,List.set_cons_zero]
 rfl
theorem upd_7 {es : List (D × V)} {bs : List Nat} {ck : Nat} {o0 o1 o3 o4 o5 o6 : Obj} {r : List Obj} {k : Nat} {n : Int} {s : ByteArray} {xs : List D} {w m : Nat} (h : EsG es) (hm : m = xs.length) :
  updateV Tryz.prog (o0 :: o1 :: .map es bs ck :: o3 :: o4 :: o5 :: o6 :: .arr 1 xs w :: r) 86 (.mp 2) (.d (.agg [.int .u8 k,.int .i64 n,.str s])) (.arr 7 m) = some (.tup [],o0 :: o1 :: mapPut es bs ck (.agg [.int .u8 k,.int .i64 n,.str s]) (.d (.list xs)) :: o3 :: o4 :: o5 :: o6 :: .arr 1 xs xs.length :: r) := by
 have h1 := keyE_cel ⟨k,n,s⟩ ⟨k,n,s⟩
 have h2 := allE_cel ⟨k,n,s⟩ h
 simp only [Cel.d] at h1 h2
 subst hm
 unfold updateV
 simp only [key_map,valM,pureV,pure1,Option.map_some,if_true,List.getElem?_cons_succ,List.getElem?_cons_zero,h1,h2,Bool.and_self,List.set_cons_succ,List.set_cons_zero]
 rfl
theorem snk_wait0 {tk gp sid : Int} {X : List D} {es : List (D × V)} {bs : List Nat} {ck : Nat} {tak : Nat} {wgt : Int} (ht : tak < 100) : R 15 [.ptr 0 0] (snkH tk gp sid X tak wgt es bs ck []) = some ([.d (.int .i64 tak)],snkH tk gp sid X tak wgt es bs ck []) := by
 simp only [snkH,snkB,catB,stoB,stoM]
 generalize twoX = Q
 have w : IntKind.wrap .u64 (tak : Int) = tak := wrap_u64 (by omega) (by omega)
 refine run_goal (rs:=[.tmp 2]) (ts:=[3]) Tryz.func15 rfl rfl rfl (by kernel_rfl) (by kernel_rfl) (.inl sp_15) (by simp [Tryz.f15]) ?_
 intro T hT
 simp -dsimp -implicitDefEqProofs (disch:=first|omega|assumption) [startSlots,nI,wI,w,rg5,rg6]
 simpa -dsimp -implicitDefEqProofs (disch:=first|omega|assumption) [nI,wI] using hT
theorem snk_full0 {tk gp sid : Int} {X : List D} {es : List (D × V)} {bs : List Nat} {ck : Nat} {tak : Nat} {wgt : Int} (ht : tak < 64) (hw : wgt < 1000000) : R 36 [.ptr 0 0] (snkH tk gp sid X tak wgt es bs ck []) = some ([.d (.bool false)],snkH tk gp sid X tak wgt es bs ck []) := by
 have h := snk_wait0 (tk := tk) (gp := gp) (sid := sid) (X := X) (es := es) (bs := bs) (ck := ck) (wgt := wgt) (tak := tak) (by omega)
 simp only [snkH,snkB,catB,stoB,stoM] at h ⊢
 generalize twoX = Q at *
 have h1 : ¬ (64 : Int) ≤ tak := by omega
 have h2 : ¬ (1000000 : Int) ≤ wgt := by omega
 refine run_goal (rs:=[.tmp 2]) (ts:=[4]) Tryz.func36 rfl rfl rfl (by kernel_rfl) (by kernel_rfl) (.inl sp_36) (by simp [Tryz.f36]) ?_
 intro T hT
 simp -dsimp -implicitDefEqProofs (disch:=first|omega|assumption) [startSlots,nI,wI,h,h1,h2,rg5,rg6]
 simpa -dsimp -implicitDefEqProofs (disch:=first|omega|assumption) [nI,wI] using hT
theorem snk_resume0 {tk gp sid : Int} {X : List D} {es : List (D × V)} {bs : List Nat} {ck : Nat} {tak : Nat} {wgt : Int} (ht : tak < 100) : R 13 [.ptr 0 0] (snkH tk gp sid X tak wgt es bs ck []) = some ([.d (.int .u64 (tak + 1))],snkH tk gp sid X tak wgt es bs ck []) := by
 simp only [snkH,snkB,catB,stoB,stoM]
 generalize twoX = Q
 have w : IntKind.wrap .u64 ((tak : Int) + 1) = tak + 1 := wrap_u64 (by omega) (by omega)
 refine run_goal (rs:=[.tmp 2]) (ts:=[22]) Tryz.func13 rfl rfl rfl (by kernel_rfl) (by kernel_rfl) (.inl sp_13) (by simp [Tryz.f13]) ?_
 intro T hT
 simp -dsimp -implicitDefEqProofs (disch:=first|omega|assumption) [startSlots,nI,wI,w,rg5,rg6]
 simpa -dsimp -implicitDefEqProofs (disch:=first|omega|assumption) [nI,wI] using hT
theorem take_put0 {tk gp sid : Int} {X : List D} {es : List (D × V)} {bs : List Nat} {ck : Nat} {tak : Nat} {wgt : Int} {e : Evt} (he : e.wf) (hE : EsG es) (ht : tak < 100) (hw0 : 0 ≤ wgt) (hw : wgt < 1000000) (ho : e.off = tak + 1) (h1 : e.op = 1) (hz : ∀ c ∈ e.row,c.s.size ≤ 500) (hk : e.key.s.size ≤ 500) (hl : e.row.length ≤ 50) (hp : 0 < e.row.length) :
  ∃ es' bs' ck',EsG es' ∧ R 39 [.ptr 0 0,.d e.d] (snkH tk gp sid X tak wgt es bs ck []) = some ([],snkH tk gp sid X (tak + 1) (wgt + 1 + wg e.key + wgs e.row) es' bs' ck' []) := by
 have hwk := weigh_runs e.key (by omega)
 have hwb := wg_le hk (by omega)
 have hrw := he.row
 obtain ⟨c0,hc0⟩ : ∃ c,e.row[0] = c := ⟨_,rfl⟩
 obtain ⟨es',bs',ck',hm,hg⟩ := mapPut_is bs ck c0 (.d (.list (e.row.map fun c => (valOf c).d))) hE
 refine ⟨es',bs',ck',hg, ?_⟩
 have hend : (e.row.map fun c => (valOf c).d) = preD (fun c => (valOf c).d) e.row e.row.length := (preD_end (Nat.le_refl _)).symm
 have hpl := preD_length (g := fun c => (valOf c).d) (Nat.le_refl e.row.length)
 rw [hend] at hm
 have htw : wgs e.row = wgs (e.row.take e.row.length) := by rw [List.take_length]
 rw [htw]
 obtain ⟨off,op,row,⟨ck0,cn0,cs0⟩,nm,kd⟩ := e
 simp only [Evt.d] at *
 subst ho h1
 obtain ⟨xk,xn,xs⟩ := c0
 have hp' : 0 < row.length := hp
 simp only [Cel.d] at hm hwk
 simp only [snkH,snkB,catB,stoB,stoM]
 generalize wg ⟨ck0,cn0,cs0⟩ = wk at *
 generalize twoX = Q at *
 have wt : IntKind.wrap .u64 ((tak : Int) + 1) = tak + 1 := wrap_u64 (by omega) (by omega)
 refine run_goal (rs:=[]) (ts:=[]) Tryz.func39 rfl rfl rfl (by kernel_rfl) (by kernel_rfl) (.inl sp_39) (by simp [Tryz.f39]) ?_
 intro T hT
 simp -dsimp -implicitDefEqProofs (disch:=first|omega|assumption) [startSlots,nI,wI,hwk,rg5,rg6]
 generalize hz : loopT _ _ _ _ _ _ = z
 revert z
 refine loop_any (σ:=Nat) (fun i => [(0,.ptr 0 0),(3,.ptr 5 0),(4,.arr 6 i),(59,.d (.list (ce row))),(60,.d (.int .i64 row.length)),(61,.d (.int .i64 i))]) (fun i => [.box [.ptr 1 0,.d (.int .i64 64),.d (.int .i64 1000000),.d (.int .u64 tk),.d (.int .i64 gp),.d (.int .u32 1),.d (.list Q),.d (.int .u32 sid),.d (.list X),.d (.int .u64 0),.d (.int .u64 ((tak : Int) + 1)),.d (.int .u64 0),.d (.int .u64 0),.d (.int .i64 (wgt + 1 + wk + wgs (row.take i))),.mp 2,.nilS],.box [.ptr 3 0,.d catD,.nilS,.d (.int .u64 0),.d tabN],.map es bs ck,.box [.d (.int .i64 4000000),.d (.int .i64 25),.mp 4,.d tabN,.d (.int .i64 (-1)),.d (.int .i64 (-1)),.d (.bool false)],.map stoE [0] 1,.box [.d (.int .u64 ((tak : Int) + 1)),.d (.int .u8 1),.d (.list (ce row)),.d (.int .u8 ck0),.d (.int .i64 cn0),.d (.str cs0),.d (.str nm),.d (.int .u8 kd)],.arr 1 (preD (fun c => (valOf c).d) row i) 0]) (fun i => i ≤ row.length) (fun i => row.length - i) 0 ?_ ?_ ?_
 ·exact Nat.zero_le _
 ·simp -dsimp -implicitDefEqProofs (disch:=first|omega|assumption) [preD_zero,wgs,rg5,rg6,Int.add_assoc]
 intro T' f hT' i hi ih
 have hlen := preD_length (g := fun c => (valOf c).d) hi
 have hwi := wgs_le (k := 500) (by omega) (row.take i) 0 (fun c hc => hz c (List.mem_of_mem_take hc))
 rw [List.length_take] at hwi
 have hwe : wgs (row.take i) = (row.take i).foldl (fun a c => a + wg c) 0 := rfl
 by_cases hlt : i < row.length
 ·obtain ⟨c,hx⟩ : ∃ c,row[i] = c := ⟨_,rfl⟩
  have hw1 := hrw c (hx ▸ List.getElem_mem hlt)
  have hs1 := hz c (hx ▸ List.getElem_mem hlt)
  have hv := vof_runs c hw1.1 hw1.2
  have hwc := weigh_runs c (by omega)
  have hwcb := wg_le hs1 (by omega)
  have htk := preD_succ (g := fun c => (valOf c).d) hlt
  have hmr := wgs_more hlt
  rw [hx] at htk hmr
  have hcd := cel_d c
  rw [hcd] at hv hwc
  rw [← hwe] at hwi
  generalize chk c = z at *
  have ihn := ih (i + 1)
  rw [hmr,htk] at ihn
  obtain ⟨ck1,cn1,cs1⟩ := c
  simp only at hcd hv hwc
  generalize valOf ⟨ck1,cn1,cs1⟩ = v at *
  generalize wg ⟨ck1,cn1,cs1⟩ = w at *
  generalize wgs (row.take i) = u at *
  simp -dsimp -implicitDefEqProofs (disch:=first|omega|assumption) [nI,wI,hlt,hx,hv,hlen,hcd,hwc,rg5,rg6]
  refine ihn _ _ (by omega) (by omega) ?_
  simp -dsimp -implicitDefEqProofs (disch:=first|omega|assumption) [Int.add_assoc,rg5,rg6]
 ·have e : i = row.length := by omega
  subst e
  have hU := @upd_6
  subst hT'
  simp -dsimp -implicitDefEqProofs (disch:=first|omega|assumption) [nI,wI,hpl,hm,hU,hE,hc0,hp',Cel.d,rg5,rg6]
  simpa -dsimp -implicitDefEqProofs (disch:=first|omega|assumption) [nI,wI,Int.add_assoc] using hT
theorem take_rem0 {tk gp sid : Int} {X : List D} {es : List (D × V)} {bs : List Nat} {ck : Nat} {tak : Nat} {wgt : Int} {e : Evt} (hE : EsG es) (ht : tak < 100) (hw0 : 0 ≤ wgt) (hw : wgt < 1000000) (ho : e.off = tak + 1) (h1 : e.op = 2) (hk : e.key.s.size ≤ 500) :
  ∃ es' bs' ck',EsG es' ∧ R 39 [.ptr 0 0,.d e.d] (snkH tk gp sid X tak wgt es bs ck []) = some ([],snkH tk gp sid X (tak + 1) (wgt + 1 + wg e.key) es' bs' ck' []) := by
 have hwk := weigh_runs e.key (by omega)
 have hwb := wg_le hk (by omega)
 obtain ⟨es',bs',ck',hm,hg⟩ := mapPut_is bs ck e.key .nilS hE
 refine ⟨es',bs',ck',hg, ?_⟩
 obtain ⟨off,op,row,⟨ck0,cn0,cs0⟩,nm,kd⟩ := e
 simp only [Evt.d,Cel.d] at ho h1 hwk hm ⊢
 subst ho h1
 simp only [snkH,snkB,catB,stoB,stoM]
 generalize wg ⟨ck0,cn0,cs0⟩ = wk at *
 generalize twoX = Q at *
 generalize ce row = Y at *
 have wt : IntKind.wrap .u64 ((tak : Int) + 1) = tak + 1 := wrap_u64 (by omega) (by omega)
 have hU := @upd_nil
 refine run_goal (rs:=[]) (ts:=[]) Tryz.func39 rfl rfl rfl (by kernel_rfl) (by kernel_rfl) (.inl sp_39) (by simp [Tryz.f39]) ?_
 intro T hT
 simp -dsimp -implicitDefEqProofs (disch:=first|omega|assumption) [startSlots,nI,wI,hwk,hm,hU,hE,rg5,rg6]
 simpa -dsimp -implicitDefEqProofs (disch:=first|omega|assumption) [nI,wI,Int.add_assoc] using hT
theorem take_wid0 {tk gp : Int} {s : Sch} {es : List (D × V)} {bs : List Nat} {ck : Nat} {tak : Nat} {wgt : Int} {e : Evt} (hs : SchW s) (he : e.wf) (ht : tak < 100) (hw0 : 0 ≤ wgt) (hw : wgt < 1000000) (ho : e.off = tak + 1) (h1 : e.op = 3) (hk : e.key.s.size ≤ 500) (h0 : sadd s e.name e.kind = 0) :
  R 39 [.ptr 0 0,.d e.d] (snkH tk gp s.id (s.fields.map Fld.d) tak wgt es bs ck []) = some ([],snkW tk gp (sgrow s e.name e.kind).id ((sgrow s e.name e.kind).fields.map Fld.d) (tak + 1) (wgt + 1 + wg e.key) es bs ck (.agg [.int .u32 0,.str e.name,.int .u8 e.kind,.bool false])) := by
 have hwk := weigh_runs e.key (by omega)
 have hwb := wg_le hk (by omega)
 have ha := add_runs s e.name e.kind hs he.name
 obtain ⟨g1,g2⟩ := add_good h0
 rw [g1,g2] at ha
 obtain ⟨off,op,row,⟨ck0,cn0,cs0⟩,nm,kd⟩ := e
 obtain ⟨sid,fs⟩ := s
 have hZl : ((sgrow ⟨sid,fs⟩ nm kd).fields.map Fld.d).length = fs.length + 1 := by simp [sgrow]
 have hZi : (sgrow ⟨sid,fs⟩ nm kd).id = sid + 1 := rfl
 simp only [Evt.d,Cel.d,Sch.d] at ho h1 hwk ha ⊢
 subst ho h1
 rw [hZi]
 simp only [snkH,snkW,snkB,catB,stoB,stoM]
 generalize wg ⟨ck0,cn0,cs0⟩ = wk at *
 generalize twoX = Q at *
 generalize (sgrow ⟨sid,fs⟩ nm kd).fields.map Fld.d = Z at *
 generalize fs.map Fld.d = X at *
 generalize ce row = Y at *
 have wt : IntKind.wrap .u64 ((tak : Int) + 1) = tak + 1 := wrap_u64 (by omega) (by omega)
 refine run_goal (rs:=[]) (ts:=[]) Tryz.func39 rfl rfl rfl (by kernel_rfl) (by kernel_rfl) (.inl sp_39) (by simp [Tryz.f39]) ?_
 intro T hT
 simp -dsimp -implicitDefEqProofs (disch:=first|omega|assumption) [startSlots,nI,wI,hwk,ha,hZl,rg5,rg6]
 simpa -dsimp -implicitDefEqProofs (disch:=first|omega|assumption) [nI,wI,Int.add_assoc] using hT
theorem snk_wait1 {tk gp sid : Int} {X : List D} {es : List (D × V)} {bs : List Nat} {ck : Nat} {f0 : D} {F : List D} {tak : Nat} {wgt : Int} (ht : tak < 100) : R 15 [.ptr 0 0] (snkH tk gp sid X tak wgt es bs ck (f0 :: F)) = some ([.d (.int .i64 tak)],snkH tk gp sid X tak wgt es bs ck (f0 :: F)) := by
 simp only [snkH,snkB,catB,stoB,stoM]
 generalize twoX = Q
 have w : IntKind.wrap .u64 (tak : Int) = tak := wrap_u64 (by omega) (by omega)
 refine run_goal (rs:=[.tmp 2]) (ts:=[3]) Tryz.func15 rfl rfl rfl (by kernel_rfl) (by kernel_rfl) (.inl sp_15) (by simp [Tryz.f15]) ?_
 intro T hT
 simp -dsimp -implicitDefEqProofs (disch:=first|omega|assumption) [startSlots,nI,wI,w,rg5,rg6]
 simpa -dsimp -implicitDefEqProofs (disch:=first|omega|assumption) [nI,wI] using hT
theorem snk_full1 {tk gp sid : Int} {X : List D} {es : List (D × V)} {bs : List Nat} {ck : Nat} {f0 : D} {F : List D} {tak : Nat} {wgt : Int} (ht : tak < 64) (hw : wgt < 1000000) : R 36 [.ptr 0 0] (snkH tk gp sid X tak wgt es bs ck (f0 :: F)) = some ([.d (.bool false)],snkH tk gp sid X tak wgt es bs ck (f0 :: F)) := by
 have h := snk_wait1 (tk := tk) (gp := gp) (sid := sid) (X := X) (es := es) (bs := bs) (ck := ck) (wgt := wgt) (f0 := f0) (F := F) (tak := tak) (by omega)
 simp only [snkH,snkB,catB,stoB,stoM] at h ⊢
 generalize twoX = Q at *
 have h1 : ¬ (64 : Int) ≤ tak := by omega
 have h2 : ¬ (1000000 : Int) ≤ wgt := by omega
 refine run_goal (rs:=[.tmp 2]) (ts:=[4]) Tryz.func36 rfl rfl rfl (by kernel_rfl) (by kernel_rfl) (.inl sp_36) (by simp [Tryz.f36]) ?_
 intro T hT
 simp -dsimp -implicitDefEqProofs (disch:=first|omega|assumption) [startSlots,nI,wI,h,h1,h2,rg5,rg6]
 simpa -dsimp -implicitDefEqProofs (disch:=first|omega|assumption) [nI,wI] using hT
theorem snk_resume1 {tk gp sid : Int} {X : List D} {es : List (D × V)} {bs : List Nat} {ck : Nat} {f0 : D} {F : List D} {tak : Nat} {wgt : Int} (ht : tak < 100) : R 13 [.ptr 0 0] (snkH tk gp sid X tak wgt es bs ck (f0 :: F)) = some ([.d (.int .u64 (tak + 1))],snkH tk gp sid X tak wgt es bs ck (f0 :: F)) := by
 simp only [snkH,snkB,catB,stoB,stoM]
 generalize twoX = Q
 have w : IntKind.wrap .u64 ((tak : Int) + 1) = tak + 1 := wrap_u64 (by omega) (by omega)
 refine run_goal (rs:=[.tmp 2]) (ts:=[22]) Tryz.func13 rfl rfl rfl (by kernel_rfl) (by kernel_rfl) (.inl sp_13) (by simp [Tryz.f13]) ?_
 intro T hT
 simp -dsimp -implicitDefEqProofs (disch:=first|omega|assumption) [startSlots,nI,wI,w,rg5,rg6]
 simpa -dsimp -implicitDefEqProofs (disch:=first|omega|assumption) [nI,wI] using hT
theorem take_put1 {tk gp sid : Int} {X : List D} {es : List (D × V)} {bs : List Nat} {ck : Nat} {f0 : D} {F : List D} {tak : Nat} {wgt : Int} {e : Evt} (he : e.wf) (hE : EsG es) (ht : tak < 100) (hw0 : 0 ≤ wgt) (hw : wgt < 1000000) (ho : e.off = tak + 1) (h1 : e.op = 1) (hz : ∀ c ∈ e.row,c.s.size ≤ 500) (hk : e.key.s.size ≤ 500) (hl : e.row.length ≤ 50) (hp : 0 < e.row.length) :
  ∃ es' bs' ck',EsG es' ∧ R 39 [.ptr 0 0,.d e.d] (snkH tk gp sid X tak wgt es bs ck (f0 :: F)) = some ([],snkH tk gp sid X (tak + 1) (wgt + 1 + wg e.key + wgs e.row) es' bs' ck' (f0 :: F)) := by
 have hwk := weigh_runs e.key (by omega)
 have hwb := wg_le hk (by omega)
 have hrw := he.row
 obtain ⟨c0,hc0⟩ : ∃ c,e.row[0] = c := ⟨_,rfl⟩
 obtain ⟨es',bs',ck',hm,hg⟩ := mapPut_is bs ck c0 (.d (.list (e.row.map fun c => (valOf c).d))) hE
 refine ⟨es',bs',ck',hg, ?_⟩
 have hend : (e.row.map fun c => (valOf c).d) = preD (fun c => (valOf c).d) e.row e.row.length := (preD_end (Nat.le_refl _)).symm
 have hpl := preD_length (g := fun c => (valOf c).d) (Nat.le_refl e.row.length)
 rw [hend] at hm
 have htw : wgs e.row = wgs (e.row.take e.row.length) := by rw [List.take_length]
 rw [htw]
 obtain ⟨off,op,row,⟨ck0,cn0,cs0⟩,nm,kd⟩ := e
 simp only [Evt.d] at *
 subst ho h1
 obtain ⟨xk,xn,xs⟩ := c0
 have hp' : 0 < row.length := hp
 simp only [Cel.d] at hm hwk
 simp only [snkH,snkB,catB,stoB,stoM]
 generalize wg ⟨ck0,cn0,cs0⟩ = wk at *
 generalize twoX = Q at *
 have wt : IntKind.wrap .u64 ((tak : Int) + 1) = tak + 1 := wrap_u64 (by omega) (by omega)
 refine run_goal (rs:=[]) (ts:=[]) Tryz.func39 rfl rfl rfl (by kernel_rfl) (by kernel_rfl) (.inl sp_39) (by simp [Tryz.f39]) ?_
 intro T hT
 simp -dsimp -implicitDefEqProofs (disch:=first|omega|assumption) [startSlots,nI,wI,hwk,rg5,rg6]
 generalize hz : loopT _ _ _ _ _ _ = z
 revert z
 refine loop_any (σ:=Nat) (fun i => [(0,.ptr 0 0),(3,.ptr 6 0),(4,.arr 7 i),(59,.d (.list (ce row))),(60,.d (.int .i64 row.length)),(61,.d (.int .i64 i))]) (fun i => [.box [.ptr 1 0,.d (.int .i64 64),.d (.int .i64 1000000),.d (.int .u64 tk),.d (.int .i64 gp),.d (.int .u32 1),.d (.list Q),.d (.int .u32 sid),.d (.list X),.d (.int .u64 0),.d (.int .u64 ((tak : Int) + 1)),.d (.int .u64 0),.d (.int .u64 0),.d (.int .i64 (wgt + 1 + wk + wgs (row.take i))),.mp 2,.arr 3 (F.length + 1)],.box [.ptr 4 0,.d catD,.nilS,.d (.int .u64 0),.d tabN],.map es bs ck,.arr 4 (f0 :: F) 0,.box [.d (.int .i64 4000000),.d (.int .i64 25),.mp 5,.d tabN,.d (.int .i64 (-1)),.d (.int .i64 (-1)),.d (.bool false)],.map stoE [0] 1,.box [.d (.int .u64 ((tak : Int) + 1)),.d (.int .u8 1),.d (.list (ce row)),.d (.int .u8 ck0),.d (.int .i64 cn0),.d (.str cs0),.d (.str nm),.d (.int .u8 kd)],.arr 1 (preD (fun c => (valOf c).d) row i) 0]) (fun i => i ≤ row.length) (fun i => row.length - i) 0 ?_ ?_ ?_
 ·exact Nat.zero_le _
 ·simp -dsimp -implicitDefEqProofs (disch:=first|omega|assumption) [preD_zero,wgs,rg5,rg6,Int.add_assoc]
 intro T' f hT' i hi ih
 have hlen := preD_length (g := fun c => (valOf c).d) hi
 have hwi := wgs_le (k := 500) (by omega) (row.take i) 0 (fun c hc => hz c (List.mem_of_mem_take hc))
 rw [List.length_take] at hwi
 have hwe : wgs (row.take i) = (row.take i).foldl (fun a c => a + wg c) 0 := rfl
 by_cases hlt : i < row.length
 ·obtain ⟨c,hx⟩ : ∃ c,row[i] = c := ⟨_,rfl⟩
  have hw1 := hrw c (hx ▸ List.getElem_mem hlt)
  have hs1 := hz c (hx ▸ List.getElem_mem hlt)
  have hv := vof_runs c hw1.1 hw1.2
  have hwc := weigh_runs c (by omega)
  have hwcb := wg_le hs1 (by omega)
  have htk := preD_succ (g := fun c => (valOf c).d) hlt
  have hmr := wgs_more hlt
  rw [hx] at htk hmr
  have hcd := cel_d c
  rw [hcd] at hv hwc
  rw [← hwe] at hwi
  generalize chk c = z at *
  have ihn := ih (i + 1)
  rw [hmr,htk] at ihn
  obtain ⟨ck1,cn1,cs1⟩ := c
  simp only at hcd hv hwc
  generalize valOf ⟨ck1,cn1,cs1⟩ = v at *
  generalize wg ⟨ck1,cn1,cs1⟩ = w at *
  generalize wgs (row.take i) = u at *
  simp -dsimp -implicitDefEqProofs (disch:=first|omega|assumption) [nI,wI,hlt,hx,hv,hlen,hcd,hwc,rg5,rg6]
  refine ihn _ _ (by omega) (by omega) ?_
  simp -dsimp -implicitDefEqProofs (disch:=first|omega|assumption) [Int.add_assoc,rg5,rg6]
 ·have e : i = row.length := by omega
  subst e
  have hU := @upd_7
  subst hT'
  simp -dsimp -implicitDefEqProofs (disch:=first|omega|assumption) [nI,wI,hpl,hm,hU,hE,hc0,hp',Cel.d,rg5,rg6]
  simpa -dsimp -implicitDefEqProofs (disch:=first|omega|assumption) [nI,wI,Int.add_assoc] using hT
theorem take_rem1 {tk gp sid : Int} {X : List D} {es : List (D × V)} {bs : List Nat} {ck : Nat} {f0 : D} {F : List D} {tak : Nat} {wgt : Int} {e : Evt} (hE : EsG es) (ht : tak < 100) (hw0 : 0 ≤ wgt) (hw : wgt < 1000000) (ho : e.off = tak + 1) (h1 : e.op = 2) (hk : e.key.s.size ≤ 500) :
  ∃ es' bs' ck',EsG es' ∧ R 39 [.ptr 0 0,.d e.d] (snkH tk gp sid X tak wgt es bs ck (f0 :: F)) = some ([],snkH tk gp sid X (tak + 1) (wgt + 1 + wg e.key) es' bs' ck' (f0 :: F)) := by
 have hwk := weigh_runs e.key (by omega)
 have hwb := wg_le hk (by omega)
 obtain ⟨es',bs',ck',hm,hg⟩ := mapPut_is bs ck e.key .nilS hE
 refine ⟨es',bs',ck',hg, ?_⟩
 obtain ⟨off,op,row,⟨ck0,cn0,cs0⟩,nm,kd⟩ := e
 simp only [Evt.d,Cel.d] at ho h1 hwk hm ⊢
 subst ho h1
 simp only [snkH,snkB,catB,stoB,stoM]
 generalize wg ⟨ck0,cn0,cs0⟩ = wk at *
 generalize twoX = Q at *
 generalize ce row = Y at *
 have wt : IntKind.wrap .u64 ((tak : Int) + 1) = tak + 1 := wrap_u64 (by omega) (by omega)
 have hU := @upd_nil
 refine run_goal (rs:=[]) (ts:=[]) Tryz.func39 rfl rfl rfl (by kernel_rfl) (by kernel_rfl) (.inl sp_39) (by simp [Tryz.f39]) ?_
 intro T hT
 simp -dsimp -implicitDefEqProofs (disch:=first|omega|assumption) [startSlots,nI,wI,hwk,hm,hU,hE,rg5,rg6]
 simpa -dsimp -implicitDefEqProofs (disch:=first|omega|assumption) [nI,wI,Int.add_assoc] using hT
theorem take_wid1 {tk gp : Int} {s : Sch} {es : List (D × V)} {bs : List Nat} {ck : Nat} {f0 : D} {F : List D} {tak : Nat} {wgt : Int} {e : Evt} (hs : SchW s) (he : e.wf) (hF : F.length < 1000) (ht : tak < 100) (hw0 : 0 ≤ wgt) (hw : wgt < 1000000) (ho : e.off = tak + 1) (h1 : e.op = 3) (hk : e.key.s.size ≤ 500) (h0 : sadd s e.name e.kind = 0) :
  R 39 [.ptr 0 0,.d e.d] (snkH tk gp s.id (s.fields.map Fld.d) tak wgt es bs ck (f0 :: F)) = some ([],snkH tk gp (sgrow s e.name e.kind).id ((sgrow s e.name e.kind).fields.map Fld.d) (tak + 1) (wgt + 1 + wg e.key) es bs ck (f0 :: (F ++ [.agg [.int .u32 0,.str e.name,.int .u8 e.kind,.bool false]]))) := by
 have hwk := weigh_runs e.key (by omega)
 have hwb := wg_le hk (by omega)
 have ha := add_runs s e.name e.kind hs he.name
 obtain ⟨g1,g2⟩ := add_good h0
 rw [g1,g2] at ha
 obtain ⟨off,op,row,⟨ck0,cn0,cs0⟩,nm,kd⟩ := e
 obtain ⟨sid,fs⟩ := s
 have hZl : ((sgrow ⟨sid,fs⟩ nm kd).fields.map Fld.d).length = fs.length + 1 := by simp [sgrow]
 have hZi : (sgrow ⟨sid,fs⟩ nm kd).id = sid + 1 := rfl
 simp only [Evt.d,Cel.d,Sch.d] at ho h1 hwk ha ⊢
 subst ho h1
 rw [hZi]
 simp only [snkH,snkW,snkB,catB,stoB,stoM]
 generalize wg ⟨ck0,cn0,cs0⟩ = wk at *
 generalize twoX = Q at *
 generalize (sgrow ⟨sid,fs⟩ nm kd).fields.map Fld.d = Z at *
 generalize fs.map Fld.d = X at *
 generalize ce row = Y at *
 have wt : IntKind.wrap .u64 ((tak : Int) + 1) = tak + 1 := wrap_u64 (by omega) (by omega)
 refine run_goal (rs:=[]) (ts:=[]) Tryz.func39 rfl rfl rfl (by kernel_rfl) (by kernel_rfl) (.inl sp_39) (by simp [Tryz.f39]) ?_
 intro T hT
 simp -dsimp -implicitDefEqProofs (disch:=first|omega|assumption) [startSlots,nI,wI,hwk,ha,hZl,rg5,rg6]
 simpa -dsimp -implicitDefEqProofs (disch:=first|omega|assumption) [nI,wI,Int.add_assoc] using hT
end Go.Am.Ab
namespace Go.Am.Ab
open Go.Proofs
set_option maxHeartbeats 8000000
set_option maxRecDepth 4000
theorem offer_no0 {tk gp : Int} {s : Sch} {es : List (D × V)} {bs : List Nat} {ck : Nat} {tak : Nat} {wgt : Int} {e : Evt} (hs : SchW s) (he : e.wf) (ht : tak < 60) (hw : wgt < 1000000) (ho : e.off = tak + 1) (hc : echk s e ≠ 0) :
  R 12 [.ptr 0 0,.d e.d] (snkH tk gp s.id (s.fields.map Fld.d) tak wgt es bs ck []) = some ([.d (.int .i64 (echk s e))],snkH tk gp s.id (s.fields.map Fld.d) tak wgt es bs ck []) := by
 have h := echk_runs s e hs he
 have hfu := snk_full0 (tk := tk) (gp := gp) (es := es) (bs := bs) (ck := ck) (sid := s.id) (X := s.fields.map Fld.d) (tak := tak) (wgt := wgt) (by omega) hw
 generalize echk s e = q at *
 obtain ⟨off,op,row,⟨ck0,cn0,cs0⟩,nm,kd⟩ := e
 obtain ⟨sid,fs⟩ := s
 simp only [Evt.d,Sch.d] at ho h hfu ⊢
 subst ho
 simp only [snkH,snkB,catB,stoB,stoM] at hfu ⊢
 generalize twoX = Q at *
 generalize fs.map Fld.d = X at *
 generalize ce row = Y at *
 have wt : IntKind.wrap .u64 ((tak : Int) + 1) = tak + 1 := wrap_u64 (by omega) (by omega)
 have a0 : ¬ (tak : Int) + 1 = 0 := by omega
 have a2 : ¬ (tak : Int) + 1 ≤ tak := by omega
 refine run_goal (rs:=[.tmp 4]) (ts:=[36]) Tryz.func12 rfl rfl rfl (by kernel_rfl) (by kernel_rfl) (.inl sp_12) (by simp [Tryz.f12]) ?_
 intro T hT
 simp -dsimp -implicitDefEqProofs (disch:=first|omega|assumption) [startSlots,nI,wI,h,hfu,hc,wt,a0,a2,rg5,rg6]
 simpa -dsimp -implicitDefEqProofs (disch:=first|omega|assumption) [nI,wI] using hT
theorem offer_put0 {tk gp : Int} {s : Sch} {es : List (D × V)} {bs : List Nat} {ck : Nat} {tak : Nat} {wgt : Int} {e : Evt} (hs : SchW s) (he : e.wf) (hE : EsG es) (ht : tak < 60) (hw0 : 0 ≤ wgt) (hw : wgt + 60000 < 1000000) (ho : e.off = tak + 1) (hc : echk s e = 0) (h1 : e.op = 1) (hk : e.key.s.size ≤ 500) (hz : ∀ c ∈ e.row,c.s.size ≤ 500) (hl : e.row.length ≤ 50) (hp : 0 < e.row.length) :
  ∃ es' bs' ck',EsG es' ∧ R 12 [.ptr 0 0,.d e.d] (snkH tk gp s.id (s.fields.map Fld.d) tak wgt es bs ck []) = some ([.d (.int .i64 0)],snkH tk gp s.id (s.fields.map Fld.d) (tak + 1) (wgt + 1 + wg e.key + wgs e.row) es' bs' ck' []) := by
 have h := echk_runs s e hs he
 rw [hc] at h
 have hfu := snk_full0 (tk := tk) (gp := gp) (es := es) (bs := bs) (ck := ck) (sid := s.id) (X := s.fields.map Fld.d) (tak := tak) (wgt := wgt) (by omega) (by omega)
 have hwa := snk_wait0 (tk := tk) (gp := gp) (es := es) (bs := bs) (ck := ck) (sid := s.id) (X := s.fields.map Fld.d) (tak := tak) (wgt := wgt) (by omega)
 have hwk := wg_le hk (by omega)
 obtain ⟨es',bs',ck',hg,htk⟩ := take_put0 (tk := tk) (gp := gp) (es := es) (bs := bs) (ck := ck) (sid := s.id) (X := s.fields.map Fld.d) (tak := tak) (wgt := wgt) he hE (by omega) hw0 (by omega) ho h1 hz hk hl hp
 have hwr := wgs_le (k := 500) (by omega) e.row 0 hz
 have hwe : wgs e.row = e.row.foldl (fun a c => a + wg c) 0 := rfl
 rw [← hwe] at hwr
 have hf2 := snk_full0 (tk := tk) (gp := gp) (es := es') (bs := bs') (ck := ck') (sid := s.id) (X := s.fields.map Fld.d) (tak := tak + 1) (wgt := wgt + 1 + wg e.key + wgs e.row) (by omega) (by omega)
 refine ⟨es',bs',ck',hg, ?_⟩
 obtain ⟨off,op,row,⟨ck0,cn0,cs0⟩,nm,kd⟩ := e
 obtain ⟨sid,fs⟩ := s
 simp only [Evt.d,Sch.d] at ho h h1 hfu hwa htk hf2 ⊢
 subst ho h1
 rw [show ((tak + 1 : Nat) : Int) = (tak : Int) + 1 by omega] at hf2
 simp only [snkH,snkW,snkB,catB,stoB,stoM] at hfu hwa htk hf2 ⊢
 generalize wg ⟨ck0,cn0,cs0⟩ = wk at *
 generalize wgs row = wr at *
 generalize twoX = Q at *
 generalize fs.map Fld.d = X at *
 generalize ce row = Y at *
 have wt : IntKind.wrap .u64 ((tak : Int) + 1) = tak + 1 := wrap_u64 (by omega) (by omega)
 by_cases ht0 : tak = 0
 ·subst ht0
  simp only [show ((0 : Nat) : Int) = 0 from rfl,Int.zero_add] at h hfu hwa htk hf2 wt ⊢
  refine run_goal (rs:=[.tmp 4]) (ts:=[36]) Tryz.func12 rfl rfl rfl (by kernel_rfl) (by kernel_rfl) (.inl sp_12) (by simp [Tryz.f12]) ?_
  intro T hT
  simp -dsimp -implicitDefEqProofs (disch:=first|omega|assumption) [startSlots,nI,wI,h,hfu,hwa,htk,hf2,wt,rg5,rg6]
  simpa -dsimp -implicitDefEqProofs (disch:=first|omega|assumption) [nI,wI] using hT
 ·have ht1 : ¬ (tak : Int) = 0 := by omega
  have a0 : ¬ (tak : Int) + 1 = 0 := by omega
  have a2 : ¬ (tak : Int) + 1 ≤ tak := by omega
  refine run_goal (rs:=[.tmp 4]) (ts:=[36]) Tryz.func12 rfl rfl rfl (by kernel_rfl) (by kernel_rfl) (.inl sp_12) (by simp [Tryz.f12]) ?_
  intro T hT
  simp -dsimp -implicitDefEqProofs (disch:=first|omega|assumption) [startSlots,nI,wI,h,hfu,hwa,htk,hf2,wt,a0,a2,rg5,rg6,ht0,ht1]
  simpa -dsimp -implicitDefEqProofs (disch:=first|omega|assumption) [nI,wI] using hT
theorem offer_rem0 {tk gp : Int} {s : Sch} {es : List (D × V)} {bs : List Nat} {ck : Nat} {tak : Nat} {wgt : Int} {e : Evt} (hs : SchW s) (he : e.wf) (hE : EsG es) (ht : tak < 60) (hw0 : 0 ≤ wgt) (hw : wgt + 60000 < 1000000) (ho : e.off = tak + 1) (hc : echk s e = 0) (h1 : e.op = 2) (hk : e.key.s.size ≤ 500)  :
  ∃ es' bs' ck',EsG es' ∧ R 12 [.ptr 0 0,.d e.d] (snkH tk gp s.id (s.fields.map Fld.d) tak wgt es bs ck []) = some ([.d (.int .i64 0)],snkH tk gp s.id (s.fields.map Fld.d) (tak + 1) (wgt + 1 + wg e.key) es' bs' ck' []) := by
 have h := echk_runs s e hs he
 rw [hc] at h
 have hfu := snk_full0 (tk := tk) (gp := gp) (es := es) (bs := bs) (ck := ck) (sid := s.id) (X := s.fields.map Fld.d) (tak := tak) (wgt := wgt) (by omega) (by omega)
 have hwa := snk_wait0 (tk := tk) (gp := gp) (es := es) (bs := bs) (ck := ck) (sid := s.id) (X := s.fields.map Fld.d) (tak := tak) (wgt := wgt) (by omega)
 have hwk := wg_le hk (by omega)
 obtain ⟨es',bs',ck',hg,htk⟩ := take_rem0 (tk := tk) (gp := gp) (es := es) (bs := bs) (ck := ck) (sid := s.id) (X := s.fields.map Fld.d) (tak := tak) (wgt := wgt) hE (by omega) hw0 (by omega) ho h1 hk
 have hf2 := snk_full0 (tk := tk) (gp := gp) (es := es') (bs := bs') (ck := ck') (sid := s.id) (X := s.fields.map Fld.d) (tak := tak + 1) (wgt := wgt + 1 + wg e.key) (by omega) (by omega)
 refine ⟨es',bs',ck',hg, ?_⟩
 obtain ⟨off,op,row,⟨ck0,cn0,cs0⟩,nm,kd⟩ := e
 obtain ⟨sid,fs⟩ := s
 simp only [Evt.d,Sch.d] at ho h h1 hfu hwa htk hf2 ⊢
 subst ho h1
 rw [show ((tak + 1 : Nat) : Int) = (tak : Int) + 1 by omega] at hf2
 simp only [snkH,snkW,snkB,catB,stoB,stoM] at hfu hwa htk hf2 ⊢
 generalize wg ⟨ck0,cn0,cs0⟩ = wk at *
 generalize twoX = Q at *
 generalize fs.map Fld.d = X at *
 generalize ce row = Y at *
 have wt : IntKind.wrap .u64 ((tak : Int) + 1) = tak + 1 := wrap_u64 (by omega) (by omega)
 by_cases ht0 : tak = 0
 ·subst ht0
  simp only [show ((0 : Nat) : Int) = 0 from rfl,Int.zero_add] at h hfu hwa htk hf2 wt ⊢
  refine run_goal (rs:=[.tmp 4]) (ts:=[36]) Tryz.func12 rfl rfl rfl (by kernel_rfl) (by kernel_rfl) (.inl sp_12) (by simp [Tryz.f12]) ?_
  intro T hT
  simp -dsimp -implicitDefEqProofs (disch:=first|omega|assumption) [startSlots,nI,wI,h,hfu,hwa,htk,hf2,wt,rg5,rg6]
  simpa -dsimp -implicitDefEqProofs (disch:=first|omega|assumption) [nI,wI] using hT
 ·have ht1 : ¬ (tak : Int) = 0 := by omega
  have a0 : ¬ (tak : Int) + 1 = 0 := by omega
  have a2 : ¬ (tak : Int) + 1 ≤ tak := by omega
  refine run_goal (rs:=[.tmp 4]) (ts:=[36]) Tryz.func12 rfl rfl rfl (by kernel_rfl) (by kernel_rfl) (.inl sp_12) (by simp [Tryz.f12]) ?_
  intro T hT
  simp -dsimp -implicitDefEqProofs (disch:=first|omega|assumption) [startSlots,nI,wI,h,hfu,hwa,htk,hf2,wt,a0,a2,rg5,rg6,ht0,ht1]
  simpa -dsimp -implicitDefEqProofs (disch:=first|omega|assumption) [nI,wI] using hT
theorem offer_wid0 {tk gp : Int} {s : Sch} {es : List (D × V)} {bs : List Nat} {ck : Nat} {tak : Nat} {wgt : Int} {e : Evt} (hs : SchW s) (he : e.wf) (hE : EsG es) (ht : tak < 60) (hw0 : 0 ≤ wgt) (hw : wgt + 60000 < 1000000) (ho : e.off = tak + 1) (hc : echk s e = 0) (h1 : e.op = 3) (hk : e.key.s.size ≤ 500) (h0 : sadd s e.name e.kind = 0) :
  R 12 [.ptr 0 0,.d e.d] (snkH tk gp s.id (s.fields.map Fld.d) tak wgt es bs ck []) = some ([.d (.int .i64 0)],snkW tk gp (sgrow s e.name e.kind).id ((sgrow s e.name e.kind).fields.map Fld.d) (tak + 1) (wgt + 1 + wg e.key) es bs ck (.agg [.int .u32 0,.str e.name,.int .u8 e.kind,.bool false])) := by
 have h := echk_runs s e hs he
 rw [hc] at h
 have hfu := snk_full0 (tk := tk) (gp := gp) (es := es) (bs := bs) (ck := ck) (sid := s.id) (X := s.fields.map Fld.d) (tak := tak) (wgt := wgt) (by omega) (by omega)
 have hwa := snk_wait0 (tk := tk) (gp := gp) (es := es) (bs := bs) (ck := ck) (sid := s.id) (X := s.fields.map Fld.d) (tak := tak) (wgt := wgt) (by omega)
 have hwk := wg_le hk (by omega)
 have htk := take_wid0 (tk := tk) (gp := gp) (es := es) (bs := bs) (ck := ck) (tak := tak) (wgt := wgt) hs he (by omega) hw0 (by omega) ho h1 hk h0
 have hf2 := snk_full1 (tk := tk) (gp := gp) (es := es) (bs := bs) (ck := ck) (f0 := .agg [.int .u32 0,.str e.name,.int .u8 e.kind,.bool false]) (F := []) (sid := (sgrow s e.name e.kind).id) (X := (sgrow s e.name e.kind).fields.map Fld.d) (tak := tak + 1) (wgt := wgt + 1 + wg e.key) (by omega) (by omega)
 obtain ⟨off,op,row,⟨ck0,cn0,cs0⟩,nm,kd⟩ := e
 obtain ⟨sid,fs⟩ := s
 simp only [Evt.d,Sch.d] at ho h h1 hfu hwa htk hf2 ⊢
 subst ho h1
 rw [show ((tak + 1 : Nat) : Int) = (tak : Int) + 1 by omega] at hf2
 simp only [snkH,snkW,snkB,catB,stoB,stoM,List.length_append,List.length_nil,List.length_cons] at hfu hwa htk hf2 ⊢
 generalize wg ⟨ck0,cn0,cs0⟩ = wk at *
 generalize twoX = Q at *
 generalize fs.map Fld.d = X at *
 generalize (sgrow ⟨sid,fs⟩ nm kd).fields.map Fld.d = Z at *
 generalize (sgrow ⟨sid,fs⟩ nm kd).id = z at *
 generalize ce row = Y at *
 have wt : IntKind.wrap .u64 ((tak : Int) + 1) = tak + 1 := wrap_u64 (by omega) (by omega)
 by_cases ht0 : tak = 0
 ·subst ht0
  simp only [show ((0 : Nat) : Int) = 0 from rfl,Int.zero_add] at h hfu hwa htk hf2 wt ⊢
  refine run_goal (rs:=[.tmp 4]) (ts:=[36]) Tryz.func12 rfl rfl rfl (by kernel_rfl) (by kernel_rfl) (.inl sp_12) (by simp [Tryz.f12]) ?_
  intro T hT
  simp -dsimp -implicitDefEqProofs (disch:=first|omega|assumption) [startSlots,nI,wI,h,hfu,hwa,htk,hf2,wt,rg5,rg6]
  simpa -dsimp -implicitDefEqProofs (disch:=first|omega|assumption) [nI,wI] using hT
 ·have ht1 : ¬ (tak : Int) = 0 := by omega
  have a0 : ¬ (tak : Int) + 1 = 0 := by omega
  have a2 : ¬ (tak : Int) + 1 ≤ tak := by omega
  refine run_goal (rs:=[.tmp 4]) (ts:=[36]) Tryz.func12 rfl rfl rfl (by kernel_rfl) (by kernel_rfl) (.inl sp_12) (by simp [Tryz.f12]) ?_
  intro T hT
  simp -dsimp -implicitDefEqProofs (disch:=first|omega|assumption) [startSlots,nI,wI,h,hfu,hwa,htk,hf2,wt,a0,a2,rg5,rg6,ht0,ht1]
  simpa -dsimp -implicitDefEqProofs (disch:=first|omega|assumption) [nI,wI] using hT
theorem offer_no1 {tk gp : Int} {s : Sch} {es : List (D × V)} {bs : List Nat} {ck : Nat} {f0 : D} {F : List D} {tak : Nat} {wgt : Int} {e : Evt} (hs : SchW s) (he : e.wf) (ht : tak < 60) (hw : wgt < 1000000) (ho : e.off = tak + 1) (hc : echk s e ≠ 0) :
  R 12 [.ptr 0 0,.d e.d] (snkH tk gp s.id (s.fields.map Fld.d) tak wgt es bs ck (f0 :: F)) = some ([.d (.int .i64 (echk s e))],snkH tk gp s.id (s.fields.map Fld.d) tak wgt es bs ck (f0 :: F)) := by
 have h := echk_runs s e hs he
 have hfu := snk_full1 (tk := tk) (gp := gp) (es := es) (bs := bs) (ck := ck) (f0 := f0) (F := F) (sid := s.id) (X := s.fields.map Fld.d) (tak := tak) (wgt := wgt) (by omega) hw
 generalize echk s e = q at *
 obtain ⟨off,op,row,⟨ck0,cn0,cs0⟩,nm,kd⟩ := e
 obtain ⟨sid,fs⟩ := s
 simp only [Evt.d,Sch.d] at ho h hfu ⊢
 subst ho
 simp only [snkH,snkB,catB,stoB,stoM] at hfu ⊢
 generalize twoX = Q at *
 generalize fs.map Fld.d = X at *
 generalize ce row = Y at *
 have wt : IntKind.wrap .u64 ((tak : Int) + 1) = tak + 1 := wrap_u64 (by omega) (by omega)
 have a0 : ¬ (tak : Int) + 1 = 0 := by omega
 have a2 : ¬ (tak : Int) + 1 ≤ tak := by omega
 refine run_goal (rs:=[.tmp 4]) (ts:=[36]) Tryz.func12 rfl rfl rfl (by kernel_rfl) (by kernel_rfl) (.inl sp_12) (by simp [Tryz.f12]) ?_
 intro T hT
 simp -dsimp -implicitDefEqProofs (disch:=first|omega|assumption) [startSlots,nI,wI,h,hfu,hc,wt,a0,a2,rg5,rg6]
 simpa -dsimp -implicitDefEqProofs (disch:=first|omega|assumption) [nI,wI] using hT
theorem offer_put1 {tk gp : Int} {s : Sch} {es : List (D × V)} {bs : List Nat} {ck : Nat} {f0 : D} {F : List D} {tak : Nat} {wgt : Int} {e : Evt} (hs : SchW s) (he : e.wf) (hE : EsG es) (ht : tak < 60) (hw0 : 0 ≤ wgt) (hw : wgt + 60000 < 1000000) (ho : e.off = tak + 1) (hc : echk s e = 0) (h1 : e.op = 1) (hk : e.key.s.size ≤ 500) (hz : ∀ c ∈ e.row,c.s.size ≤ 500) (hl : e.row.length ≤ 50) (hp : 0 < e.row.length) :
  ∃ es' bs' ck',EsG es' ∧ R 12 [.ptr 0 0,.d e.d] (snkH tk gp s.id (s.fields.map Fld.d) tak wgt es bs ck (f0 :: F)) = some ([.d (.int .i64 0)],snkH tk gp s.id (s.fields.map Fld.d) (tak + 1) (wgt + 1 + wg e.key + wgs e.row) es' bs' ck' (f0 :: F)) := by
 have h := echk_runs s e hs he
 rw [hc] at h
 have hfu := snk_full1 (tk := tk) (gp := gp) (es := es) (bs := bs) (ck := ck) (f0 := f0) (F := F) (sid := s.id) (X := s.fields.map Fld.d) (tak := tak) (wgt := wgt) (by omega) (by omega)
 have hwa := snk_wait1 (tk := tk) (gp := gp) (es := es) (bs := bs) (ck := ck) (f0 := f0) (F := F) (sid := s.id) (X := s.fields.map Fld.d) (tak := tak) (wgt := wgt) (by omega)
 have hwk := wg_le hk (by omega)
 obtain ⟨es',bs',ck',hg,htk⟩ := take_put1 (tk := tk) (gp := gp) (es := es) (bs := bs) (ck := ck) (f0 := f0) (F := F) (sid := s.id) (X := s.fields.map Fld.d) (tak := tak) (wgt := wgt) he hE (by omega) hw0 (by omega) ho h1 hz hk hl hp
 have hwr := wgs_le (k := 500) (by omega) e.row 0 hz
 have hwe : wgs e.row = e.row.foldl (fun a c => a + wg c) 0 := rfl
 rw [← hwe] at hwr
 have hf2 := snk_full1 (tk := tk) (gp := gp) (es := es') (bs := bs') (ck := ck') (f0 := f0) (F := F) (sid := s.id) (X := s.fields.map Fld.d) (tak := tak + 1) (wgt := wgt + 1 + wg e.key + wgs e.row) (by omega) (by omega)
 refine ⟨es',bs',ck',hg, ?_⟩
 obtain ⟨off,op,row,⟨ck0,cn0,cs0⟩,nm,kd⟩ := e
 obtain ⟨sid,fs⟩ := s
 simp only [Evt.d,Sch.d] at ho h h1 hfu hwa htk hf2 ⊢
 subst ho h1
 rw [show ((tak + 1 : Nat) : Int) = (tak : Int) + 1 by omega] at hf2
 simp only [snkH,snkW,snkB,catB,stoB,stoM] at hfu hwa htk hf2 ⊢
 generalize wg ⟨ck0,cn0,cs0⟩ = wk at *
 generalize wgs row = wr at *
 generalize twoX = Q at *
 generalize fs.map Fld.d = X at *
 generalize ce row = Y at *
 have wt : IntKind.wrap .u64 ((tak : Int) + 1) = tak + 1 := wrap_u64 (by omega) (by omega)
 by_cases ht0 : tak = 0
 ·subst ht0
  simp only [show ((0 : Nat) : Int) = 0 from rfl,Int.zero_add] at h hfu hwa htk hf2 wt ⊢
  refine run_goal (rs:=[.tmp 4]) (ts:=[36]) Tryz.func12 rfl rfl rfl (by kernel_rfl) (by kernel_rfl) (.inl sp_12) (by simp [Tryz.f12]) ?_
  intro T hT
  simp -dsimp -implicitDefEqProofs (disch:=first|omega|assumption) [startSlots,nI,wI,h,hfu,hwa,htk,hf2,wt,rg5,rg6]
  simpa -dsimp -implicitDefEqProofs (disch:=first|omega|assumption) [nI,wI] using hT
 ·have ht1 : ¬ (tak : Int) = 0 := by omega
  have a0 : ¬ (tak : Int) + 1 = 0 := by omega
  have a2 : ¬ (tak : Int) + 1 ≤ tak := by omega
  refine run_goal (rs:=[.tmp 4]) (ts:=[36]) Tryz.func12 rfl rfl rfl (by kernel_rfl) (by kernel_rfl) (.inl sp_12) (by simp [Tryz.f12]) ?_
  intro T hT
  simp -dsimp -implicitDefEqProofs (disch:=first|omega|assumption) [startSlots,nI,wI,h,hfu,hwa,htk,hf2,wt,a0,a2,rg5,rg6,ht0,ht1]
  simpa -dsimp -implicitDefEqProofs (disch:=first|omega|assumption) [nI,wI] using hT
theorem offer_rem1 {tk gp : Int} {s : Sch} {es : List (D × V)} {bs : List Nat} {ck : Nat} {f0 : D} {F : List D} {tak : Nat} {wgt : Int} {e : Evt} (hs : SchW s) (he : e.wf) (hE : EsG es) (ht : tak < 60) (hw0 : 0 ≤ wgt) (hw : wgt + 60000 < 1000000) (ho : e.off = tak + 1) (hc : echk s e = 0) (h1 : e.op = 2) (hk : e.key.s.size ≤ 500)  :
  ∃ es' bs' ck',EsG es' ∧ R 12 [.ptr 0 0,.d e.d] (snkH tk gp s.id (s.fields.map Fld.d) tak wgt es bs ck (f0 :: F)) = some ([.d (.int .i64 0)],snkH tk gp s.id (s.fields.map Fld.d) (tak + 1) (wgt + 1 + wg e.key) es' bs' ck' (f0 :: F)) := by
 have h := echk_runs s e hs he
 rw [hc] at h
 have hfu := snk_full1 (tk := tk) (gp := gp) (es := es) (bs := bs) (ck := ck) (f0 := f0) (F := F) (sid := s.id) (X := s.fields.map Fld.d) (tak := tak) (wgt := wgt) (by omega) (by omega)
 have hwa := snk_wait1 (tk := tk) (gp := gp) (es := es) (bs := bs) (ck := ck) (f0 := f0) (F := F) (sid := s.id) (X := s.fields.map Fld.d) (tak := tak) (wgt := wgt) (by omega)
 have hwk := wg_le hk (by omega)
 obtain ⟨es',bs',ck',hg,htk⟩ := take_rem1 (tk := tk) (gp := gp) (es := es) (bs := bs) (ck := ck) (f0 := f0) (F := F) (sid := s.id) (X := s.fields.map Fld.d) (tak := tak) (wgt := wgt) hE (by omega) hw0 (by omega) ho h1 hk
 have hf2 := snk_full1 (tk := tk) (gp := gp) (es := es') (bs := bs') (ck := ck') (f0 := f0) (F := F) (sid := s.id) (X := s.fields.map Fld.d) (tak := tak + 1) (wgt := wgt + 1 + wg e.key) (by omega) (by omega)
 refine ⟨es',bs',ck',hg, ?_⟩
 obtain ⟨off,op,row,⟨ck0,cn0,cs0⟩,nm,kd⟩ := e
 obtain ⟨sid,fs⟩ := s
 simp only [Evt.d,Sch.d] at ho h h1 hfu hwa htk hf2 ⊢
 subst ho h1
 rw [show ((tak + 1 : Nat) : Int) = (tak : Int) + 1 by omega] at hf2
 simp only [snkH,snkW,snkB,catB,stoB,stoM] at hfu hwa htk hf2 ⊢
 generalize wg ⟨ck0,cn0,cs0⟩ = wk at *
 generalize twoX = Q at *
 generalize fs.map Fld.d = X at *
 generalize ce row = Y at *
 have wt : IntKind.wrap .u64 ((tak : Int) + 1) = tak + 1 := wrap_u64 (by omega) (by omega)
 by_cases ht0 : tak = 0
 ·subst ht0
  simp only [show ((0 : Nat) : Int) = 0 from rfl,Int.zero_add] at h hfu hwa htk hf2 wt ⊢
  refine run_goal (rs:=[.tmp 4]) (ts:=[36]) Tryz.func12 rfl rfl rfl (by kernel_rfl) (by kernel_rfl) (.inl sp_12) (by simp [Tryz.f12]) ?_
  intro T hT
  simp -dsimp -implicitDefEqProofs (disch:=first|omega|assumption) [startSlots,nI,wI,h,hfu,hwa,htk,hf2,wt,rg5,rg6]
  simpa -dsimp -implicitDefEqProofs (disch:=first|omega|assumption) [nI,wI] using hT
 ·have ht1 : ¬ (tak : Int) = 0 := by omega
  have a0 : ¬ (tak : Int) + 1 = 0 := by omega
  have a2 : ¬ (tak : Int) + 1 ≤ tak := by omega
  refine run_goal (rs:=[.tmp 4]) (ts:=[36]) Tryz.func12 rfl rfl rfl (by kernel_rfl) (by kernel_rfl) (.inl sp_12) (by simp [Tryz.f12]) ?_
  intro T hT
  simp -dsimp -implicitDefEqProofs (disch:=first|omega|assumption) [startSlots,nI,wI,h,hfu,hwa,htk,hf2,wt,a0,a2,rg5,rg6,ht0,ht1]
  simpa -dsimp -implicitDefEqProofs (disch:=first|omega|assumption) [nI,wI] using hT
theorem offer_wid1 {tk gp : Int} {s : Sch} {es : List (D × V)} {bs : List Nat} {ck : Nat} {f0 : D} {F : List D} {tak : Nat} {wgt : Int} {e : Evt} (hs : SchW s) (he : e.wf) (hE : EsG es) (ht : tak < 60) (hw0 : 0 ≤ wgt) (hw : wgt + 60000 < 1000000) (ho : e.off = tak + 1) (hc : echk s e = 0) (h1 : e.op = 3) (hk : e.key.s.size ≤ 500) (h0 : sadd s e.name e.kind = 0) (hF : F.length < 1000) :
  R 12 [.ptr 0 0,.d e.d] (snkH tk gp s.id (s.fields.map Fld.d) tak wgt es bs ck (f0 :: F)) = some ([.d (.int .i64 0)],snkH tk gp (sgrow s e.name e.kind).id ((sgrow s e.name e.kind).fields.map Fld.d) (tak + 1) (wgt + 1 + wg e.key) es bs ck (f0 :: (F ++ [.agg [.int .u32 0,.str e.name,.int .u8 e.kind,.bool false]]))) := by
 have h := echk_runs s e hs he
 rw [hc] at h
 have hfu := snk_full1 (tk := tk) (gp := gp) (es := es) (bs := bs) (ck := ck) (f0 := f0) (F := F) (sid := s.id) (X := s.fields.map Fld.d) (tak := tak) (wgt := wgt) (by omega) (by omega)
 have hwa := snk_wait1 (tk := tk) (gp := gp) (es := es) (bs := bs) (ck := ck) (f0 := f0) (F := F) (sid := s.id) (X := s.fields.map Fld.d) (tak := tak) (wgt := wgt) (by omega)
 have hwk := wg_le hk (by omega)
 have htk := take_wid1 (tk := tk) (gp := gp) (es := es) (bs := bs) (ck := ck) (f0 := f0) (F := F) (tak := tak) (wgt := wgt) hs he hF (by omega) hw0 (by omega) ho h1 hk h0
 have hf2 := snk_full1 (tk := tk) (gp := gp) (es := es) (bs := bs) (ck := ck) (f0 := f0) (F := (F ++ [.agg [.int .u32 0,.str e.name,.int .u8 e.kind,.bool false]])) (sid := (sgrow s e.name e.kind).id) (X := (sgrow s e.name e.kind).fields.map Fld.d) (tak := tak + 1) (wgt := wgt + 1 + wg e.key) (by omega) (by omega)
 obtain ⟨off,op,row,⟨ck0,cn0,cs0⟩,nm,kd⟩ := e
 obtain ⟨sid,fs⟩ := s
 simp only [Evt.d,Sch.d] at ho h h1 hfu hwa htk hf2 ⊢
 subst ho h1
 rw [show ((tak + 1 : Nat) : Int) = (tak : Int) + 1 by omega] at hf2
 simp only [snkH,snkW,snkB,catB,stoB,stoM,List.length_append,List.length_nil,List.length_cons] at hfu hwa htk hf2 ⊢
 generalize wg ⟨ck0,cn0,cs0⟩ = wk at *
 generalize twoX = Q at *
 generalize fs.map Fld.d = X at *
 generalize (sgrow ⟨sid,fs⟩ nm kd).fields.map Fld.d = Z at *
 generalize (sgrow ⟨sid,fs⟩ nm kd).id = z at *
 generalize ce row = Y at *
 have wt : IntKind.wrap .u64 ((tak : Int) + 1) = tak + 1 := wrap_u64 (by omega) (by omega)
 by_cases ht0 : tak = 0
 ·subst ht0
  simp only [show ((0 : Nat) : Int) = 0 from rfl,Int.zero_add] at h hfu hwa htk hf2 wt ⊢
  refine run_goal (rs:=[.tmp 4]) (ts:=[36]) Tryz.func12 rfl rfl rfl (by kernel_rfl) (by kernel_rfl) (.inl sp_12) (by simp [Tryz.f12]) ?_
  intro T hT
  simp -dsimp -implicitDefEqProofs (disch:=first|omega|assumption) [startSlots,nI,wI,h,hfu,hwa,htk,hf2,wt,rg5,rg6]
  simpa -dsimp -implicitDefEqProofs (disch:=first|omega|assumption) [nI,wI] using hT
 ·have ht1 : ¬ (tak : Int) = 0 := by omega
  have a0 : ¬ (tak : Int) + 1 = 0 := by omega
  have a2 : ¬ (tak : Int) + 1 ≤ tak := by omega
  refine run_goal (rs:=[.tmp 4]) (ts:=[36]) Tryz.func12 rfl rfl rfl (by kernel_rfl) (by kernel_rfl) (.inl sp_12) (by simp [Tryz.f12]) ?_
  intro T hT
  simp -dsimp -implicitDefEqProofs (disch:=first|omega|assumption) [startSlots,nI,wI,h,hfu,hwa,htk,hf2,wt,a0,a2,rg5,rg6,ht0,ht1]
  simpa -dsimp -implicitDefEqProofs (disch:=first|omega|assumption) [nI,wI] using hT
end Go.Am.Ab
namespace Go.Am.Ab
open Go.Proofs
set_option maxHeartbeats 8000000
set_option maxRecDepth 4000
theorem snk_schema0 {tk gp : Int} {s : Sch} {es : List (D × V)} {bs : List Nat} {ck : Nat} {tak wgt : Int} (hl : s.fields.length < 1000000) : R 14 [.ptr 0 0] (snkH tk gp s.id (s.fields.map Fld.d) tak wgt es bs ck []) = some ([.d (.agg [.int .u32 s.id,.list (s.fields.map Fld.d)])],snkH tk gp s.id (s.fields.map Fld.d) tak wgt es bs ck []) := by
 have h := cloneF_runs s.fields (by omega)
 obtain ⟨sid,fs⟩ := s
 simp only [snkH,snkB,catB,stoB,stoM] at h ⊢
 generalize twoX = Q at *
 have hX : (fs.map Fld.d).length = fs.length := List.length_map _
 generalize fs.map Fld.d = X at *
 generalize fs.length = m at *
 refine run_goal (rs:=[.cell 2 44]) (ts:=[44]) Tryz.func14 rfl rfl rfl (by kernel_rfl) (by kernel_rfl) (.inl sp_14) (by simp [Tryz.f14]) ?_
 intro T hT
 simp -dsimp -implicitDefEqProofs (disch:=first|omega|assumption) [startSlots,nI,wI,h,hX,rg5,rg6]
 simpa -dsimp -implicitDefEqProofs (disch:=first|omega|assumption) [nI,wI] using hT
theorem snk_schema1 {tk gp : Int} {s : Sch} {es : List (D × V)} {bs : List Nat} {ck : Nat} {f0 : D} {F : List D} {tak wgt : Int} (hl : s.fields.length < 1000000) : R 14 [.ptr 0 0] (snkH tk gp s.id (s.fields.map Fld.d) tak wgt es bs ck (f0 :: F)) = some ([.d (.agg [.int .u32 s.id,.list (s.fields.map Fld.d)])],snkH tk gp s.id (s.fields.map Fld.d) tak wgt es bs ck (f0 :: F)) := by
 have h := cloneF_runs s.fields (by omega)
 obtain ⟨sid,fs⟩ := s
 simp only [snkH,snkB,catB,stoB,stoM] at h ⊢
 generalize twoX = Q at *
 have hX : (fs.map Fld.d).length = fs.length := List.length_map _
 generalize fs.map Fld.d = X at *
 generalize fs.length = m at *
 refine run_goal (rs:=[.cell 2 44]) (ts:=[44]) Tryz.func14 rfl rfl rfl (by kernel_rfl) (by kernel_rfl) (.inl sp_14) (by simp [Tryz.f14]) ?_
 intro T hT
 simp -dsimp -implicitDefEqProofs (disch:=first|omega|assumption) [startSlots,nI,wI,h,hX,rg5,rg6]
 simpa -dsimp -implicitDefEqProofs (disch:=first|omega|assumption) [nI,wI] using hT
end Go.Am.Ab
namespace Go.Am.Ab
open Go.Proofs
set_option maxRecDepth 1000000
def grp (g : Int) : Int := if (64 : Int) < (if (1 : Int) > g then 1 else g) then 64 else (if (1 : Int) > g then 1 else g)
theorem two_runs : R 11 [] [] = some ([.agg [.d (.int .u32 1),.arr 0 2]],[.arr 4 twoX 0]) := evalM_runs t0 100000 60 (by kernel_rfl)
def stoN : List Obj := [.box [.d (.int .i64 4000000),.d (.int .i64 0),.mp 1,.d (.str ⟨#[]⟩),.d (.int .i64 (-1)),.d (.int .i64 (-1)),.d (.bool false)],.map [] [] 0]
theorem store_runs : R 10 [.d (.int .i64 4000000)] [] = some ([.ptr 0 0],stoN) := evalM_runs t0 100000 60 (by kernel_rfl)
theorem new_runs (tk gp : Int) : R 9 [.ptr 0 0,.d (.agg [.int .u32 1,.list twoX]),.d (.agg [.int .i64 64,.int .i64 1000000,.int .u64 tk,.int .i64 gp])] stoN = some ([.ptr 2 0,.d (.int .i64 0)],[stoB 1,stoM,snkB 3 4 tk (grp gp) 1 twoX 0 0 .nilS,catB 0,.map [] [] 0]) := evalM_runs t0 100000 60 (by kernel_rfl)
end Go.Am.Ab
