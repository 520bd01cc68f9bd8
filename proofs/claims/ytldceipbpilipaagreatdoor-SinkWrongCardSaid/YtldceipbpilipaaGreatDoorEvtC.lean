/- Well-made events of the document. -/
import Derived.Test.YtldceipbpilipaaGreatDoorEvtB
set_option linter.all false
namespace Go.Am.Ab
open Go.Proofs
set_option maxHeartbeats 8000000
set_option maxRecDepth 4000
def rowG (b : Nat) (x : D) : Prop := ∃ (c : Cel) (r : List Cel),x = .list (c.d :: ce r) ∧ r.length ≤ b
def putS (row : D) (a : Cel) (p : List D × Bool) (x : D) : List D × Bool :=
 match x with
 | .list (.agg [.int .u8 k,.int .i64 n,.str s] :: r) =>
  let y := D.list (.agg [.int .u8 k,.int .i64 n,.str s] :: r)
  let m := cmpC a ⟨k.toNat,n,s⟩
  let q := if !p.2 && decide (m ≤ 0) then (p.1 ++ [row],true) else p
  if m = 0 then q else (q.1 ++ [y],q.2)
 | _ => p
theorem putS_row {row : D} {a : Cel} {p : List D × Bool} {c : Cel} {r : List D} : putS row a p (.list (c.d :: r)) =
  (if cmpC a c = 0 then (if !p.2 && decide (cmpC a c ≤ 0) then (p.1 ++ [row],true) else p) else ((if !p.2 && decide (cmpC a c ≤ 0) then (p.1 ++ [row],true) else p).1 ++ [.list (c.d :: r)],(if !p.2 && decide (cmpC a c ≤ 0) then (p.1 ++ [row],true) else p).2)) := by
 obtain ⟨k,n,s⟩ := c
 simp only [putS,Cel.d,Int.toNat_natCast]
theorem great_runs (e : Evt) : R 7 [.d e.d] [] = some ([.d (.bool (decide (50 < e.row.length) || decide (500 < e.key.s.size) || decide (500 < e.name.size) || e.row.any fun c => decide (500 < c.s.size)))],[]) := by
 obtain ⟨off,op,row,⟨ck,cn,cs⟩,nm,kd⟩ := e
 simp only [Evt.d]
 have hrl : (ce row).length = row.length := List.length_map _
 by_cases h1 : 50 < row.length
 ·have h1' : (50 : Int) < row.length := by omega
  generalize ce row = Y at *
  refine run_goal (rs:=[.tmp 2]) (ts:=[4]) Tryz.func7 rfl rfl rfl (by kernel_rfl) (by kernel_rfl) (.inl sp_7) (by simp [Tryz.f7]) ?_
  intro T hT
  simp -dsimp -implicitDefEqProofs (disch:=first|omega|assumption) [startSlots,nI,wI,hrl,h1']
  simpa -dsimp -implicitDefEqProofs (disch:=first|omega|assumption) [nI,wI,h1] using hT
 have h1' : ¬ (50 : Int) < row.length := by omega
 by_cases h2 : 500 < cs.size
 ·have h2' : (500 : Int) < cs.size := by omega
  generalize ce row = Y at *
  refine run_goal (rs:=[.tmp 2]) (ts:=[4]) Tryz.func7 rfl rfl rfl (by kernel_rfl) (by kernel_rfl) (.inl sp_7) (by simp [Tryz.f7]) ?_
  intro T hT
  simp -dsimp -implicitDefEqProofs (disch:=first|omega|assumption) [startSlots,nI,wI,hrl,h1',h2']
  simpa -dsimp -implicitDefEqProofs (disch:=first|omega|assumption) [nI,wI,h2] using hT
 have h2' : ¬ (500 : Int) < cs.size := by omega
 by_cases h3 : 500 < nm.size
 ·have h3' : (500 : Int) < nm.size := by omega
  generalize ce row = Y at *
  refine run_goal (rs:=[.tmp 2]) (ts:=[4]) Tryz.func7 rfl rfl rfl (by kernel_rfl) (by kernel_rfl) (.inl sp_7) (by simp [Tryz.f7]) ?_
  intro T hT
  simp -dsimp -implicitDefEqProofs (disch:=first|omega|assumption) [startSlots,nI,wI,hrl,h1',h2',h3']
  simpa -dsimp -implicitDefEqProofs (disch:=first|omega|assumption) [nI,wI,h3] using hT
 have h3' : ¬ (500 : Int) < nm.size := by omega
 rw [decide_eq_false h1,decide_eq_false h2,decide_eq_false h3]
 simp only [Bool.false_or]
 refine run_goal (rs:=[.tmp 2]) (ts:=[4]) Tryz.func7 rfl rfl rfl (by kernel_rfl) (by kernel_rfl) (.inl sp_7) (by simp [Tryz.f7]) ?_
 intro T hT
 simp -dsimp -implicitDefEqProofs (disch:=first|omega|assumption) [startSlots,nI,wI,hrl,h1',h2',h3']
 generalize hz : loopT _ _ _ _ _ _ = z
 revert z
 refine loop_any (σ:=Nat) (fun i => [(1,.ptr 0 0),(3,.d (.int .i64 i))]) (fun i => [.box [.d (.int .u64 off),.d (.int .u8 op),.d (.list (ce row)),.d (.int .u8 ck),.d (.int .i64 cn),.d (.str cs),.d (.str nm),.d (.int .u8 kd)]]) (fun i => i ≤ row.length ∧ (row.any fun c => decide (500 < c.s.size)) = ((row.drop i).any fun c => decide (500 < c.s.size))) (fun i => row.length - i) 0 ?_ ?_ ?_
 ·exact ⟨Nat.zero_le _,rfl⟩
 ·simp -dsimp -implicitDefEqProofs (disch:=first|omega|assumption)
 intro T' f hT' i ⟨hi,hr⟩ ih
 by_cases h : i < row.length
 ·obtain ⟨⟨ck,cn,cs⟩,hx⟩ : ∃ c,row[i] = c := ⟨_,rfl⟩
  rw [List.drop_eq_getElem_cons h,hx,List.any_cons] at hr
  by_cases h4 : 500 < cs.size
  ·rw [decide_eq_true h4,Bool.true_or] at hr
   rw [hr] at hT
   have h4' : (500 : Int) < cs.size := by omega
   subst hT'
   simp -dsimp -implicitDefEqProofs (disch:=first|omega|assumption) [nI,wI,h,hx,h4',Cel.d]
   simpa -dsimp -implicitDefEqProofs (disch:=first|omega|assumption) [nI,wI] using hT
  ·rw [decide_eq_false h4,Bool.false_or] at hr
   have h4' : ¬ (500 : Int) < cs.size := by omega
   simp -dsimp -implicitDefEqProofs (disch:=first|omega|assumption) [nI,wI,h,hx,h4',Cel.d]
   refine ih (i + 1) _ _ ⟨by omega,hr⟩ (by omega) ?_
   simp -dsimp -implicitDefEqProofs (disch:=first|omega|assumption)
 ·have e : i = row.length := by omega
  subst e
  rw [List.drop_length,List.any_nil] at hr
  rw [hr] at hT
  subst hT'
  simp -dsimp -implicitDefEqProofs (disch:=first|omega|assumption) [nI,wI]
  simpa -dsimp -implicitDefEqProofs (disch:=first|omega|assumption) [nI,wI] using hT
end Go.Am.Ab
namespace Go.Am.Ab
open Go.Proofs
set_option maxHeartbeats 8000000
set_option maxRecDepth 4000
def remS (a : Cel) (p : List D) (x : D) : List D :=
 match x with
 | .list (.agg [.int .u8 k,.int .i64 n,.str s] :: r) => if (⟨k.toNat,n,s⟩ : Cel) = a then p else p ++ [.list (.agg [.int .u8 k,.int .i64 n,.str s] :: r)]
 | _ => p
theorem remS_row {a : Cel} {p : List D} {c : Cel} {r : List D} : remS a p (.list (c.d :: r)) = if c = a then p else p ++ [.list (c.d :: r)] := by
 obtain ⟨k,n,s⟩ := c
 simp only [remS,Cel.d,Int.toNat_natCast]
def widS (p : List D) (x : D) : List D := match x with | .list l => p ++ [.list (l ++ [Cel.none.d])] | _ => p
theorem fold_good {β : Type} {b : Nat} {st : β → D → β} {P : β → Prop} (hs : ∀ p x,rowG b x → P p → P (st p x)) : ∀ (L : List D) (p : β),(∀ x ∈ L,rowG b x) → P p → P (L.foldl st p)
 | [],_,_,h => h
 | x :: L,p,hL,h => fold_good hs L (st p x) (fun y hy => hL y (List.mem_cons_of_mem _ hy)) (hs p x (hL x (by simp)) h)
theorem app_good {b : Nat} {p : List D} {x : D} (h : ∀ y ∈ p,rowG b y) (hx : rowG b x) : ∀ y ∈ p ++ [x],rowG b y := fun y hy => by
 rcases List.mem_append.1 hy with h1 | h1
 ·exact h y h1
 ·rw [List.mem_singleton.1 h1]; exact hx
theorem putS_good {b : Nat} {row : D} {a : Cel} (hr : rowG b row) (L : List D) (hL : ∀ x ∈ L,rowG b x) : ∀ y ∈ (L.foldl (putS row a) ([],false)).1,rowG b y :=
 fold_good (β := List D × Bool) (b := b) (st := putS row a) (P := fun p => ∀ y ∈ p.1,rowG b y) (fun p x hx hp => by
  obtain ⟨c,r,rfl,hb⟩ := hx
  rw [putS_row]
  have hxg : rowG b (.list (c.d :: ce r)) := ⟨c,r,rfl,hb⟩
  split <;> split
  ·exact app_good hp hr
  ·exact hp
  ·exact app_good (app_good hp hr) hxg
  ·exact app_good hp hxg) L _ hL (fun y hy => by cases hy)
theorem remS_good {b : Nat} {a : Cel} (L : List D) (hL : ∀ x ∈ L,rowG b x) : ∀ y ∈ L.foldl (remS a) [],rowG b y :=
 fold_good (β := List D) (b := b) (st := remS a) (P := fun p => ∀ y ∈ p,rowG b y) (fun p x hx hp => by
  obtain ⟨c,r,rfl,hb⟩ := hx
  rw [remS_row]
  split
  ·exact hp
  ·exact app_good hp ⟨c,r,rfl,hb⟩) L _ hL (fun y hy => by cases hy)
theorem widS_good {b : Nat} (L : List D) (hL : ∀ x ∈ L,rowG b x) : ∀ y ∈ L.foldl widS [],rowG (b + 1) y :=
 fold_good (β := List D) (b := b) (st := widS) (P := fun p => ∀ y ∈ p,rowG (b + 1) y) (fun p x hx hp => by
  obtain ⟨c,r,rfl,hb⟩ := hx
  exact app_good hp ⟨c,r ++ [Cel.none],by simp,by simp; omega⟩) L _ hL (fun y hy => by cases hy)
theorem fold_more {β : Type} {st : β → D → β} {p : β} {L : List D} {i : Nat} (h : i < L.length) : (L.take (i + 1)).foldl st p = st ((L.take i).foldl st p) L[i] := by
 rw [List.take_succ_eq_append_getElem h,List.foldl_append]; rfl
theorem fold_len {st : List D → D → List D} (hs : ∀ p x,(st p x).length ≤ p.length + 1) : ∀ (L p : List D),(L.foldl st p).length ≤ p.length + L.length
 | [],p => by simp
 | x :: L,p => by
  have := fold_len hs L (st p x)
  have := hs p x
  simp only [List.foldl_cons,List.length_cons]
  omega
theorem remS_len (a : Cel) (p : List D) (x : D) : (remS a p x).length ≤ p.length + 1 := by
 unfold remS; split
 ·split <;> simp
 ·omega
theorem widS_len (p : List D) (x : D) : (widS p x).length ≤ p.length + 1 := by
 unfold widS; split <;> simp
def nb : Bool → Nat | true => 0 | false => 1
theorem putS_len (row : D) (a : Cel) (p : List D × Bool) (x : D) : (putS row a p x).1.length + nb (putS row a p x).2 ≤ p.1.length + nb p.2 + 1 := by
 unfold putS; split
 ·simp only
  obtain ⟨l,b⟩ := p
  cases b <;> simp only [Bool.not_true,Bool.not_false,Bool.false_and,Bool.true_and,Bool.false_eq_true,if_false,if_true] <;> (repeat' split) <;> simp only [nb,List.length_append,List.length_cons,List.length_nil] <;> omega
 ·exact Nat.le_succ _
theorem putF_len (row : D) (a : Cel) : ∀ (L : List D) (p : List D × Bool),(L.foldl (putS row a) p).1.length + nb (L.foldl (putS row a) p).2 ≤ p.1.length + nb p.2 + L.length
 | [],p => Nat.le_refl _
 | x :: L,p => by
  have h1 := putF_len row a L (putS row a p x)
  have h2 := putS_len row a p x
  rw [List.foldl_cons,List.length_cons]
  omega
theorem rg2 : List.range 2 = [0,1] := rfl
theorem rdo_no0 {s : Sch} {e : Evt} {n : Int} {L : List D} (hs : SchW s) (he : e.wf) (hk1 : e.kind ≤ 255) (hn : 0 ≤ n) (hn1 : n < 1000000) (ho : e.off = n + 1) (hc : echk s e ≠ 0) :
  R 57 [.ptr 0 0,.d e.d] [.box [.d (.int .u32 s.id),.d (.list (s.fields.map Fld.d)),.nilS,.d (.int .u64 n)]] = some ([.d (.int .i64 (echk s e))],[.box [.d (.int .u32 s.id),.d (.list (s.fields.map Fld.d)),.nilS,.d (.int .u64 n)]]) := by
 have h := rechk_runs s e hs he hk1
 generalize echk s e = q at *
 obtain ⟨off,op,row,⟨ck,cn,cs⟩,nm,kd⟩ := e
 obtain ⟨sid,fs⟩ := s
 simp only [Sch.d,Evt.d] at h ho ⊢
 subst ho
 generalize fs.map Fld.d = X at *
 generalize ce row = Y at *
 have hm : ¬ n = 18446744073709551615 := by omega
 have hw : IntKind.wrap .u64 (n + 1) = n + 1 := wrap_u64 (by omega) (by omega)
 refine run_goal (rs:=[.tmp 4]) (ts:=[3]) Tryz.func57 rfl rfl rfl (by kernel_rfl) (by kernel_rfl) (.inl sp_57) (by simp [Tryz.f57]) ?_
 intro T hT
 simp -dsimp -implicitDefEqProofs (disch:=first|omega|assumption) [startSlots,nI,wI,h,hc,hm,hw]
 simpa -dsimp -implicitDefEqProofs (disch:=first|omega|assumption) [nI,wI] using hT
theorem rdo_put0 {s : Sch} {e : Evt} {n : Int} {L : List D} {b : Nat} (hL0 : L = []) (hs : SchW s) (he : e.wf) (hk1 : e.kind ≤ 255) (hn : 0 ≤ n) (hn1 : n < 1000000) (ho : e.off = n + 1) (hc : echk s e = 0) (h1 : e.op = 1) {c0 : Cel} {r0 : List Cel} (hr0 : e.row.map fix = c0 :: r0) (hrb : r0.length ≤ b) (hg : ∀ x ∈ L,rowG b x) (hb : b < 1000000) :
  ∃ L',(∀ x ∈ L',rowG b x) ∧ L'.length ≤ L.length + 1 ∧ R 57 [.ptr 0 0,.d e.d] [.box [.d (.int .u32 s.id),.d (.list (s.fields.map Fld.d)),.nilS,.d (.int .u64 n)]] = some ([.d (.int .i64 0)],[.box [.d (.int .u32 s.id),.d (.list (s.fields.map Fld.d)),.arr 1 L'.length,.d (.int .u64 (n + 1))],.arr 1 L' 0]) := by
 have h := rechk_runs s e hs he hk1
 rw [hc] at h
 have hfr := fixRow_runs e.row (fun c h => he.row c h) he.len
 have hfl : (e.row.map fix).length = e.row.length := List.length_map _
 rw [hr0] at hfr hfl
 rw [← hfl] at hfr
 have hln := he.len
 obtain ⟨off,op,row,⟨ck,cn,cs⟩,nm,kd⟩ := e
 obtain ⟨sid,fs⟩ := s
 simp only [Sch.d,Evt.d] at h ho h1 hfr hfl hln ⊢
 subst ho h1
 obtain ⟨c0k,c0n,c0s⟩ := c0
 rw [show ce (⟨c0k,c0n,c0s⟩ :: r0) = .agg [.int .u8 c0k,.int .i64 c0n,.str c0s] :: ce r0 from rfl,List.length_cons] at hfr
 have hrl : (ce r0).length = r0.length := List.length_map _
 have hral : allSize 3 (ce r0) = true := allSize_ce r0
 generalize fs.map Fld.d = X at *
 generalize ce row = Y at *
 rw [List.length_cons] at hfl
 have hRl : (D.agg [.int .u8 c0k,.int .i64 c0n,.str c0s] :: ce r0).length = r0.length + 1 := by rw [List.length_cons,hrl]
 have hR0 : ∀ h : 0 < (D.agg [.int .u8 c0k,.int .i64 c0n,.str c0s] :: ce r0).length,(D.agg [.int .u8 c0k,.int .i64 c0n,.str c0s] :: ce r0)[0] = .agg [.int .u8 c0k,.int .i64 c0n,.str c0s] := fun _ => rfl
 have hRg : rowG b (.list (D.agg [.int .u8 c0k,.int .i64 c0n,.str c0s] :: ce r0)) := ⟨⟨c0k,c0n,c0s⟩,r0,rfl,hrb⟩
 generalize hRR : (D.agg [.int .u8 c0k,.int .i64 c0n,.str c0s] :: ce r0) = RR at *
 have hR1 : 0 < RR.length := by omega
 have hR2 := hR0 hR1
 have hm : ¬ n = 18446744073709551615 := by omega
 have hw : IntKind.wrap .u64 (n + 1) = n + 1 := wrap_u64 (by omega) (by omega)
 generalize ha : (⟨c0k,c0n,c0s⟩ : Cel) = a at *
 obtain ⟨st,hst⟩ : ∃ st,st = putS (.list RR) a := ⟨_,rfl⟩
 have hgd := putS_good (a := a) hRg L hg
 have hpl := putF_len (.list RR) a L ([],false)
 rw [← hst] at hgd hpl
 obtain ⟨p,hp⟩ : ∃ p,L.foldl st ([],false) = p := ⟨_,rfl⟩
 rw [hp] at hgd hpl
 simp only [List.length_nil,nb] at hpl
 refine ⟨if p.2 then p.1 else p.1 ++ [.list RR], ?_, ?_, ?_⟩
 ·split
  ·exact hgd
  ·exact app_good hgd hRg
 ·cases hp2 : p.2 <;> rw [hp2] at hpl <;> simp only [nb,Bool.false_eq_true,if_false,if_true,List.length_append,List.length_cons,List.length_nil] at hpl ⊢ <;> omega
 subst hL0
 simp only [List.foldl_nil] at hp
 subst hp
 refine run_goal (rs:=[.tmp 4]) (ts:=[3]) Tryz.func57 rfl rfl rfl (by kernel_rfl) (by kernel_rfl) (.inl sp_57) (by simp [Tryz.f57]) ?_
 intro T hT
 simp -dsimp -implicitDefEqProofs (disch:=first|omega|assumption) [startSlots,nI,wI,h,hm,hw,hfr]
 generalize hz : loopT _ _ _ _ _ _ = z
 revert z
 refine loop_any (σ:=Unit) (fun _ => [(0,.ptr 0 0),(3,.ptr 1 0),(6,.arr 2 0),(7,.arr 3 (r0.length + 1)),(8,.d (.bool false)),(9,.d (.int .i64 0))]) (fun _ => [.box [.d (.int .u32 sid),.d (.list X),.nilS,.d (.int .u64 n)],.box [.d (.int .u64 (n + 1)),.d (.int .u8 1),.d (.list Y),.d (.int .u8 ck),.d (.int .i64 cn),.d (.str cs),.d (.str nm),.d (.int .u8 kd)],.arr 1 [] 0,.arr 3 RR 0]) (fun _ => True) (fun _ => 0) () ?_ ?_ ?_
 ·trivial
 ·simp -dsimp -implicitDefEqProofs (disch:=first|omega|assumption)
 intro T' f hT' _ _ ih
 subst hT'
 simp only [Bool.false_eq_true,if_false] at hT
 simp -dsimp -implicitDefEqProofs (disch:=first|omega|assumption) [nI,wI,hRl]
 simpa -dsimp -implicitDefEqProofs (disch:=first|omega|assumption) [nI,wI,List.nil_append] using hT
theorem rdo_rem0 {s : Sch} {e : Evt} {n : Int} {L : List D} {b : Nat} (hL0 : L = []) (hs : SchW s) (he : e.wf) (hk1 : e.kind ≤ 255) (hn : 0 ≤ n) (hn1 : n < 1000000) (ho : e.off = n + 1) (hc : echk s e = 0) (h1 : e.op = 2) (hg : ∀ x ∈ L,rowG b x) (hb : b < 1000000) :
  ∃ L',(∀ x ∈ L',rowG b x) ∧ L'.length ≤ L.length ∧ R 57 [.ptr 0 0,.d e.d] [.box [.d (.int .u32 s.id),.d (.list (s.fields.map Fld.d)),.nilS,.d (.int .u64 n)]] = some ([.d (.int .i64 0)],[.box [.d (.int .u32 s.id),.d (.list (s.fields.map Fld.d)),.arr 1 L'.length,.d (.int .u64 (n + 1))],.arr 1 L' 0]) := by
 have h := rechk_runs s e hs he hk1
 rw [hc] at h
 have hfx := rfix_runs e.key he.key.1 he.key.2
 obtain ⟨st,hst⟩ : ∃ st,st = remS (fix e.key) := ⟨_,rfl⟩
 have hgd := remS_good (a := fix e.key) L hg
 have hpl := fold_len (remS_len (fix e.key)) L []
 rw [← hst] at hgd hpl
 rw [List.length_nil,Nat.zero_add] at hpl
 obtain ⟨p,hp⟩ : ∃ p,L.foldl st [] = p := ⟨_,rfl⟩
 rw [hp] at hgd hpl
 refine ⟨p,hgd,hpl, ?_⟩
 obtain ⟨off,op,row,key,nm,kd⟩ := e
 obtain ⟨sid,fs⟩ := s
 simp only [Sch.d,Evt.d] at h ho h1 hfx hst ⊢
 subst ho h1
 obtain ⟨fx,hfe⟩ : ∃ fx,fix key = fx := ⟨_,rfl⟩
 rw [hfe] at hfx hst
 obtain ⟨ck,cn,cs⟩ := key
 obtain ⟨xk,xn,xs⟩ := fx
 simp only [Cel.d] at hfx h ⊢
 generalize fs.map Fld.d = X at *
 generalize ce row = Y at *
 have hm : ¬ n = 18446744073709551615 := by omega
 have hw : IntKind.wrap .u64 (n + 1) = n + 1 := wrap_u64 (by omega) (by omega)
 subst hL0
 simp only [List.foldl_nil] at hp
 subst hp
 refine run_goal (rs:=[.tmp 4]) (ts:=[3]) Tryz.func57 rfl rfl rfl (by kernel_rfl) (by kernel_rfl) (.inl sp_57) (by simp [Tryz.f57]) ?_
 intro T hT
 simp -dsimp -implicitDefEqProofs (disch:=first|omega|assumption) [startSlots,nI,wI,h,hm,hw]
 generalize hz : loopT _ _ _ _ _ _ = z
 revert z
 refine loop_any (σ:=Unit) (fun _ => [(0,.ptr 0 0),(3,.ptr 1 0),(6,.arr 2 0),(11,.d (.int .i64 0))]) (fun _ => [.box [.d (.int .u32 sid),.d (.list X),.nilS,.d (.int .u64 n)],.box [.d (.int .u64 (n + 1)),.d (.int .u8 2),.d (.list Y),.d (.int .u8 ck),.d (.int .i64 cn),.d (.str cs),.d (.str nm),.d (.int .u8 kd)],.arr 1 [] 0]) (fun _ => True) (fun _ => 0) () ?_ ?_ ?_
 ·trivial
 ·simp -dsimp -implicitDefEqProofs (disch:=first|omega|assumption)
 intro T' f hT' _ _ ih
 subst hT'
 simp -dsimp -implicitDefEqProofs (disch:=first|omega|assumption) [nI,wI]
 simpa -dsimp -implicitDefEqProofs (disch:=first|omega|assumption) [nI,wI] using hT
theorem rdo_wid0 {s : Sch} {e : Evt} {n : Int} {L : List D} {b : Nat} (hL0 : L = []) (hs : SchW s) (he : e.wf) (hk1 : e.kind ≤ 255) (hn : 0 ≤ n) (hn1 : n < 1000000) (ho : e.off = n + 1) (hc : echk s e = 0) (h1 : e.op = 3) (h0 : sadd s e.name e.kind = 0) (hg : ∀ x ∈ L,rowG b x) (hb : b < 1000000) :
  ∃ L',(∀ x ∈ L',rowG (b + 1) x) ∧ L'.length ≤ L.length ∧ R 57 [.ptr 0 0,.d e.d] [.box [.d (.int .u32 s.id),.d (.list (s.fields.map Fld.d)),.nilS,.d (.int .u64 n)]] = some ([.d (.int .i64 0)],[.box [.d (.int .u32 (s.id + 1)),.d (.list ((sgrow s e.name e.kind).fields.map Fld.d)),.arr 1 L'.length,.d (.int .u64 (n + 1))],.arr 1 L' 0]) := by
 have h := rechk_runs s e hs he hk1
 rw [hc] at h
 have hadd := radd_runs s e.name e.kind hs he.name he.kind hk1
 obtain ⟨g1,g2⟩ := add_good h0
 rw [g1,g2] at hadd
 have hkd0 := he.kind
 obtain ⟨st,hst⟩ : ∃ st,st = widS := ⟨_,rfl⟩
 have hgd := widS_good L hg
 have hpl := fold_len (widS_len) L []
 rw [← hst] at hgd hpl
 rw [List.length_nil,Nat.zero_add] at hpl
 obtain ⟨p,hp⟩ : ∃ p,L.foldl st [] = p := ⟨_,rfl⟩
 rw [hp] at hgd hpl
 refine ⟨p,hgd,hpl, ?_⟩
 obtain ⟨off,op,row,⟨ck,cn,cs⟩,nm,kd⟩ := e
 obtain ⟨sid,fs⟩ := s
 simp only [Sch.d,Evt.d] at h ho h1 hadd hk1 hkd0 ⊢
 subst ho h1
 have hZl : ((sgrow ⟨sid,fs⟩ nm kd).fields.map Fld.d).length = fs.length + 1 := by simp [sgrow]
 generalize (sgrow ⟨sid,fs⟩ nm kd).fields.map Fld.d = Z at *
 generalize fs.length = zn at *
 generalize fs.map Fld.d = X at *
 generalize ce row = Y at *
 have hm : ¬ n = 18446744073709551615 := by omega
 have hw : IntKind.wrap .u64 (n + 1) = n + 1 := wrap_u64 (by omega) (by omega)
 subst hL0
 simp only [List.foldl_nil] at hp
 subst hp
 refine run_goal (rs:=[.tmp 4]) (ts:=[3]) Tryz.func57 rfl rfl rfl (by kernel_rfl) (by kernel_rfl) (.inl sp_57) (by simp [Tryz.f57]) ?_
 intro T hT
 simp -dsimp -implicitDefEqProofs (disch:=first|omega|assumption) [startSlots,nI,wI,h,hm,hw,hadd,hZl]
 generalize hz : loopT _ _ _ _ _ _ = z
 revert z
 refine loop_any (σ:=Unit) (fun _ => [(0,.ptr 0 0),(3,.ptr 1 0),(6,.arr 2 0),(14,.d (.int .i64 0))]) (fun _ => [.box [.d (.int .u32 (sid + 1)),.d (.list Z),.nilS,.d (.int .u64 n)],.box [.d (.int .u64 (n + 1)),.d (.int .u8 3),.d (.list Y),.d (.int .u8 ck),.d (.int .i64 cn),.d (.str cs),.d (.str nm),.d (.int .u8 kd)],.arr 1 [] 0]) (fun _ => True) (fun _ => 0) () ?_ ?_ ?_
 ·trivial
 ·simp -dsimp -implicitDefEqProofs (disch:=first|omega|assumption)
 intro T' f hT' _ _ ih
 subst hT'
 simp -dsimp -implicitDefEqProofs (disch:=first|omega|assumption) [nI,wI]
 simpa -dsimp -implicitDefEqProofs (disch:=first|omega|assumption) [nI,wI] using hT
theorem rdo_no1 {s : Sch} {e : Evt} {n : Int} {L : List D} (hs : SchW s) (he : e.wf) (hk1 : e.kind ≤ 255) (hn : 0 ≤ n) (hn1 : n < 1000000) (ho : e.off = n + 1) (hc : echk s e ≠ 0) :
  R 57 [.ptr 0 0,.d e.d] [.box [.d (.int .u32 s.id),.d (.list (s.fields.map Fld.d)),.arr 1 L.length,.d (.int .u64 n)],.arr 1 L 0] = some ([.d (.int .i64 (echk s e))],[.box [.d (.int .u32 s.id),.d (.list (s.fields.map Fld.d)),.arr 1 L.length,.d (.int .u64 n)],.arr 1 L 0]) := by
 have h := rechk_runs s e hs he hk1
 generalize echk s e = q at *
 obtain ⟨off,op,row,⟨ck,cn,cs⟩,nm,kd⟩ := e
 obtain ⟨sid,fs⟩ := s
 simp only [Sch.d,Evt.d] at h ho ⊢
 subst ho
 generalize fs.map Fld.d = X at *
 generalize ce row = Y at *
 have hm : ¬ n = 18446744073709551615 := by omega
 have hw : IntKind.wrap .u64 (n + 1) = n + 1 := wrap_u64 (by omega) (by omega)
 refine run_goal (rs:=[.tmp 4]) (ts:=[3]) Tryz.func57 rfl rfl rfl (by kernel_rfl) (by kernel_rfl) (.inl sp_57) (by simp [Tryz.f57]) ?_
 intro T hT
 simp -dsimp -implicitDefEqProofs (disch:=first|omega|assumption) [startSlots,nI,wI,rg2,h,hc,hm,hw]
 simpa -dsimp -implicitDefEqProofs (disch:=first|omega|assumption) [nI,wI] using hT
theorem rdo_put1 {s : Sch} {e : Evt} {n : Int} {L : List D} {b : Nat} (hLn : L.length < 1000000) (hs : SchW s) (he : e.wf) (hk1 : e.kind ≤ 255) (hn : 0 ≤ n) (hn1 : n < 1000000) (ho : e.off = n + 1) (hc : echk s e = 0) (h1 : e.op = 1) {c0 : Cel} {r0 : List Cel} (hr0 : e.row.map fix = c0 :: r0) (hrb : r0.length ≤ b) (hg : ∀ x ∈ L,rowG b x) (hb : b < 1000000) :
  ∃ L',(∀ x ∈ L',rowG b x) ∧ L'.length ≤ L.length + 1 ∧ R 57 [.ptr 0 0,.d e.d] [.box [.d (.int .u32 s.id),.d (.list (s.fields.map Fld.d)),.arr 1 L.length,.d (.int .u64 n)],.arr 1 L 0] = some ([.d (.int .i64 0)],[.box [.d (.int .u32 s.id),.d (.list (s.fields.map Fld.d)),.arr 2 L'.length,.d (.int .u64 (n + 1))],.arr 1 L 0,.arr 1 L' 0]) := by
 have h := rechk_runs s e hs he hk1
 rw [hc] at h
 have hfr := fixRow_runs e.row (fun c h => he.row c h) he.len
 have hfl : (e.row.map fix).length = e.row.length := List.length_map _
 rw [hr0] at hfr hfl
 rw [← hfl] at hfr
 have hln := he.len
 obtain ⟨off,op,row,⟨ck,cn,cs⟩,nm,kd⟩ := e
 obtain ⟨sid,fs⟩ := s
 simp only [Sch.d,Evt.d] at h ho h1 hfr hfl hln ⊢
 subst ho h1
 obtain ⟨c0k,c0n,c0s⟩ := c0
 rw [show ce (⟨c0k,c0n,c0s⟩ :: r0) = .agg [.int .u8 c0k,.int .i64 c0n,.str c0s] :: ce r0 from rfl,List.length_cons] at hfr
 have hrl : (ce r0).length = r0.length := List.length_map _
 have hral : allSize 3 (ce r0) = true := allSize_ce r0
 generalize fs.map Fld.d = X at *
 generalize ce row = Y at *
 rw [List.length_cons] at hfl
 have hRl : (D.agg [.int .u8 c0k,.int .i64 c0n,.str c0s] :: ce r0).length = r0.length + 1 := by rw [List.length_cons,hrl]
 have hR0 : ∀ h : 0 < (D.agg [.int .u8 c0k,.int .i64 c0n,.str c0s] :: ce r0).length,(D.agg [.int .u8 c0k,.int .i64 c0n,.str c0s] :: ce r0)[0] = .agg [.int .u8 c0k,.int .i64 c0n,.str c0s] := fun _ => rfl
 have hRg : rowG b (.list (D.agg [.int .u8 c0k,.int .i64 c0n,.str c0s] :: ce r0)) := ⟨⟨c0k,c0n,c0s⟩,r0,rfl,hrb⟩
 generalize hRR : (D.agg [.int .u8 c0k,.int .i64 c0n,.str c0s] :: ce r0) = RR at *
 have hR1 : 0 < RR.length := by omega
 have hR2 := hR0 hR1
 have hm : ¬ n = 18446744073709551615 := by omega
 have hw : IntKind.wrap .u64 (n + 1) = n + 1 := wrap_u64 (by omega) (by omega)
 generalize ha : (⟨c0k,c0n,c0s⟩ : Cel) = a at *
 obtain ⟨st,hst⟩ : ∃ st,st = putS (.list RR) a := ⟨_,rfl⟩
 have hgd := putS_good (a := a) hRg L hg
 have hpl := putF_len (.list RR) a L ([],false)
 rw [← hst] at hgd hpl
 obtain ⟨p,hp⟩ : ∃ p,L.foldl st ([],false) = p := ⟨_,rfl⟩
 rw [hp] at hgd hpl
 simp only [List.length_nil,nb] at hpl
 refine ⟨if p.2 then p.1 else p.1 ++ [.list RR], ?_, ?_, ?_⟩
 ·split
  ·exact hgd
  ·exact app_good hgd hRg
 ·cases hp2 : p.2 <;> rw [hp2] at hpl <;> simp only [nb,Bool.false_eq_true,if_false,if_true,List.length_append,List.length_cons,List.length_nil] at hpl ⊢ <;> omega
 refine run_goal (rs:=[.tmp 4]) (ts:=[3]) Tryz.func57 rfl rfl rfl (by kernel_rfl) (by kernel_rfl) (.inl sp_57) (by simp [Tryz.f57]) ?_
 intro T hT
 simp -dsimp -implicitDefEqProofs (disch:=first|omega|assumption) [startSlots,nI,wI,rg2,h,hm,hw,hfr]
 generalize hz : loopT _ _ _ _ _ _ = z
 revert z
 refine loop_any (σ:=Nat) (fun i => [(0,.ptr 0 0),(3,.ptr 2 0),(6,.arr 3 ((L.take i).foldl st ([],false)).1.length),(7,.arr 4 (r0.length + 1)),(8,.d (.bool ((L.take i).foldl st ([],false)).2)),(9,.d (.int .i64 i))]) (fun i => [.box [.d (.int .u32 sid),.d (.list X),.arr 1 L.length,.d (.int .u64 n)],.arr 1 L 0,.box [.d (.int .u64 (n + 1)),.d (.int .u8 1),.d (.list Y),.d (.int .u8 ck),.d (.int .i64 cn),.d (.str cs),.d (.str nm),.d (.int .u8 kd)],.arr 1 ((L.take i).foldl st ([],false)).1 0,.arr 3 RR (if ((L.take i).foldl st ([],false)).2 then r0.length + 1 else 0)]) (fun i => i ≤ L.length) (fun i => L.length - i) 0 ?_ ?_ ?_
 ·exact Nat.zero_le _
 ·simp -dsimp -implicitDefEqProofs (disch:=first|omega|assumption) [rg2]
 intro T' f hT' i hi ih
 by_cases hlt : i < L.length
 ·obtain ⟨⟨k',n',s'⟩,r',hx,hrb'⟩ := hg L[i] (List.getElem_mem hlt)
  have hmore := fold_more (st := st) (p := ([],false)) hlt
  have hcmp := rcompare_runs a ⟨k',n',s'⟩
  have hlen := putF_len (.list RR) a (L.take i) ([],false)
  rw [← hst] at hlen
  simp only [List.length_take,List.length_nil,nb] at hlen
  rw [hx,hst,putS_row,← hst] at hmore
  rw [← ha] at hcmp
  simp only [Cel.d] at hcmp hx hmore
  rw [ha] at hcmp
  have ihn := ih (i + 1)
  rw [hmore] at ihn
  generalize (L.take i).foldl st ([],false) = q at *
  obtain ⟨l,b⟩ := q
  simp only at *
  generalize cmpC a ⟨k',n',s'⟩ = m at *
  cases b with
  | true =>
   simp only [Bool.not_true,Bool.false_and,Bool.false_eq_true,if_false,if_true] at *
   by_cases m0 : m = 0
   ·subst m0
    simp only [if_true] at ihn
    simp -dsimp -implicitDefEqProofs (disch:=first|omega|assumption) [nI,wI,rg2,hlt,hx,hRl,hR1,hR2,hcmp]
    refine ihn _ _ (by omega) (by omega) ?_
    simp -dsimp -implicitDefEqProofs (disch:=first|omega|assumption) [rg2]
   ·simp only [m0,if_false] at ihn
    simp -dsimp -implicitDefEqProofs (disch:=first|omega|assumption) [nI,wI,rg2,hlt,hx,hRl,hR1,hR2,hcmp,m0]
    refine ihn _ _ (by omega) (by omega) ?_
    simp -dsimp -implicitDefEqProofs (disch:=first|omega|assumption) [rg2]
  | false =>
   by_cases m1 : m ≤ 0
   ·rw [decide_eq_true m1] at ihn
    simp only [Bool.not_false,Bool.true_and,Bool.false_eq_true,if_false,if_true] at *
    by_cases m0 : m = 0
    ·subst m0
     simp only [if_true] at ihn
     simp -dsimp -implicitDefEqProofs (disch:=first|omega|assumption) [nI,wI,rg2,hlt,hx,hRl,hR1,hR2,hcmp]
     refine ihn _ _ (by omega) (by omega) ?_
     simp -dsimp -implicitDefEqProofs (disch:=first|omega|assumption) [hRl,rg2]
    ·simp only [m0,if_false] at ihn
     simp -dsimp -implicitDefEqProofs (disch:=first|omega|assumption) [nI,wI,rg2,hlt,hx,hRl,hR1,hR2,hcmp,m0,m1]
     refine ihn _ _ (by omega) (by omega) ?_
     simp -dsimp -implicitDefEqProofs (disch:=first|omega|assumption) [hRl,rg2]
   ·have m0 : ¬ m = 0 := by omega
    rw [decide_eq_false m1] at ihn
    simp only [Bool.not_false,Bool.true_and,Bool.false_eq_true,if_false,m0] at ihn
    simp -dsimp -implicitDefEqProofs (disch:=first|omega|assumption) [nI,wI,rg2,hlt,hx,hRl,hR1,hR2,hcmp,m0,m1]
    refine ihn _ _ (by omega) (by omega) ?_
    simp -dsimp -implicitDefEqProofs (disch:=first|omega|assumption) [rg2]
 ·have e : i = L.length := by omega
  subst e
  have htk : (L.take L.length).foldl st ([],false) = p := by rw [List.take_length,hp]
  simp only [htk] at *
  subst hT'
  obtain ⟨l,b⟩ := p
  simp only at hpl hT
  cases b with
  | true =>
   simp only [if_true] at hT
   simp -dsimp -implicitDefEqProofs (disch:=first|omega|assumption) [nI,wI,rg2,hlt]
   simpa -dsimp -implicitDefEqProofs (disch:=first|omega|assumption) [nI,wI] using hT
  | false =>
   simp only [Bool.false_eq_true,if_false] at hT
   have hla : (l ++ [D.list RR]).length = l.length + 1 := by simp
   rw [hla] at hT
   simp only [nb] at hpl
   simp -dsimp -implicitDefEqProofs (disch:=first|omega|assumption) [nI,wI,rg2,hRl,hlt]
   simpa -dsimp -implicitDefEqProofs (disch:=first|omega|assumption) [nI,wI] using hT
theorem rdo_rem1 {s : Sch} {e : Evt} {n : Int} {L : List D} {b : Nat} (hLn : L.length < 1000000) (hs : SchW s) (he : e.wf) (hk1 : e.kind ≤ 255) (hn : 0 ≤ n) (hn1 : n < 1000000) (ho : e.off = n + 1) (hc : echk s e = 0) (h1 : e.op = 2) (hg : ∀ x ∈ L,rowG b x) (hb : b < 1000000) :
  ∃ L',(∀ x ∈ L',rowG b x) ∧ L'.length ≤ L.length ∧ R 57 [.ptr 0 0,.d e.d] [.box [.d (.int .u32 s.id),.d (.list (s.fields.map Fld.d)),.arr 1 L.length,.d (.int .u64 n)],.arr 1 L 0] = some ([.d (.int .i64 0)],[.box [.d (.int .u32 s.id),.d (.list (s.fields.map Fld.d)),.arr 2 L'.length,.d (.int .u64 (n + 1))],.arr 1 L 0,.arr 1 L' 0]) := by
 have h := rechk_runs s e hs he hk1
 rw [hc] at h
 have hfx := rfix_runs e.key he.key.1 he.key.2
 obtain ⟨st,hst⟩ : ∃ st,st = remS (fix e.key) := ⟨_,rfl⟩
 have hgd := remS_good (a := fix e.key) L hg
 have hpl := fold_len (remS_len (fix e.key)) L []
 rw [← hst] at hgd hpl
 rw [List.length_nil,Nat.zero_add] at hpl
 obtain ⟨p,hp⟩ : ∃ p,L.foldl st [] = p := ⟨_,rfl⟩
 rw [hp] at hgd hpl
 refine ⟨p,hgd,hpl, ?_⟩
 obtain ⟨off,op,row,key,nm,kd⟩ := e
 obtain ⟨sid,fs⟩ := s
 simp only [Sch.d,Evt.d] at h ho h1 hfx hst ⊢
 subst ho h1
 obtain ⟨fx,hfe⟩ : ∃ fx,fix key = fx := ⟨_,rfl⟩
 rw [hfe] at hfx hst
 obtain ⟨ck,cn,cs⟩ := key
 obtain ⟨xk,xn,xs⟩ := fx
 simp only [Cel.d] at hfx h ⊢
 generalize fs.map Fld.d = X at *
 generalize ce row = Y at *
 have hm : ¬ n = 18446744073709551615 := by omega
 have hw : IntKind.wrap .u64 (n + 1) = n + 1 := wrap_u64 (by omega) (by omega)
 refine run_goal (rs:=[.tmp 4]) (ts:=[3]) Tryz.func57 rfl rfl rfl (by kernel_rfl) (by kernel_rfl) (.inl sp_57) (by simp [Tryz.f57]) ?_
 intro T hT
 simp -dsimp -implicitDefEqProofs (disch:=first|omega|assumption) [startSlots,nI,wI,rg2,h,hm,hw]
 generalize hz : loopT _ _ _ _ _ _ = z
 revert z
 refine loop_any (σ:=Nat) (fun i => [(0,.ptr 0 0),(3,.ptr 2 0),(6,.arr 3 ((L.take i).foldl st []).length),(11,.d (.int .i64 i))]) (fun i => [.box [.d (.int .u32 sid),.d (.list X),.arr 1 L.length,.d (.int .u64 n)],.arr 1 L 0,.box [.d (.int .u64 (n + 1)),.d (.int .u8 2),.d (.list Y),.d (.int .u8 ck),.d (.int .i64 cn),.d (.str cs),.d (.str nm),.d (.int .u8 kd)],.arr 1 ((L.take i).foldl st []) 0]) (fun i => i ≤ L.length) (fun i => L.length - i) 0 ?_ ?_ ?_
 ·exact Nat.zero_le _
 ·simp -dsimp -implicitDefEqProofs (disch:=first|omega|assumption) [rg2]
 intro T' f hT' i hi ih
 by_cases hlt : i < L.length
 ·obtain ⟨⟨k',n',s'⟩,r',hx,hrb'⟩ := hg L[i] (List.getElem_mem hlt)
  have hmore := fold_more (st := st) (p := []) hlt
  have hlen := fold_len (remS_len ⟨xk,xn,xs⟩) (L.take i) []
  rw [← hst] at hlen
  simp only [List.length_take,List.length_nil] at hlen
  rw [hx,hst,remS_row,← hst] at hmore
  simp only [Cel.d] at hx hmore
  have ihn := ih (i + 1)
  rw [hmore] at ihn
  generalize (L.take i).foldl st [] = q at *
  by_cases he1 : (⟨k',n',s'⟩ : Cel) = ⟨xk,xn,xs⟩
  ·rw [if_pos he1] at ihn
   simp only [Cel.mk.injEq] at he1
   obtain ⟨rfl,rfl,rfl⟩ := he1
   simp -dsimp -implicitDefEqProofs (disch:=first|omega|assumption) [nI,wI,rg2,hlt,hx,hfx,str_beq]
   refine ihn _ _ (by omega) (by omega) ?_
   simp -dsimp -implicitDefEqProofs (disch:=first|omega|assumption) [rg2]
  ·rw [if_neg he1] at ihn
   have he2 : (decide (k' = xk) && (decide (n' = xn) && decide (s' = xs))) = false := by
    by_cases c1 : k' = xk <;> by_cases c2 : n' = xn <;> by_cases c3 : s' = xs <;> simp [c1,c2,c3]
    exact he1 (by rw [c1,c2,c3])
   simp -dsimp -implicitDefEqProofs (disch:=first|omega|assumption) [nI,wI,rg2,hlt,hx,hfx,str_beq,he2]
   refine ihn _ _ (by omega) (by omega) ?_
   simp -dsimp -implicitDefEqProofs (disch:=first|omega|assumption) [rg2]
 ·have e : i = L.length := by omega
  subst e
  have htk : (L.take L.length).foldl st [] = p := by rw [List.take_length,hp]
  simp only [htk] at *
  subst hT'
  simp -dsimp -implicitDefEqProofs (disch:=first|omega|assumption) [nI,wI,rg2,hlt]
  simpa -dsimp -implicitDefEqProofs (disch:=first|omega|assumption) [nI,wI] using hT
theorem rdo_wid1 {s : Sch} {e : Evt} {n : Int} {L : List D} {b : Nat} (hLn : L.length < 1000000) (hs : SchW s) (he : e.wf) (hk1 : e.kind ≤ 255) (hn : 0 ≤ n) (hn1 : n < 1000000) (ho : e.off = n + 1) (hc : echk s e = 0) (h1 : e.op = 3) (h0 : sadd s e.name e.kind = 0) (hg : ∀ x ∈ L,rowG b x) (hb : b < 1000000) :
  ∃ L',(∀ x ∈ L',rowG (b + 1) x) ∧ L'.length ≤ L.length ∧ R 57 [.ptr 0 0,.d e.d] [.box [.d (.int .u32 s.id),.d (.list (s.fields.map Fld.d)),.arr 1 L.length,.d (.int .u64 n)],.arr 1 L 0] = some ([.d (.int .i64 0)],[.box [.d (.int .u32 (s.id + 1)),.d (.list ((sgrow s e.name e.kind).fields.map Fld.d)),.arr 2 L'.length,.d (.int .u64 (n + 1))],.arr 1 L 0,.arr 1 L' 0]) := by
 have h := rechk_runs s e hs he hk1
 rw [hc] at h
 have hadd := radd_runs s e.name e.kind hs he.name he.kind hk1
 obtain ⟨g1,g2⟩ := add_good h0
 rw [g1,g2] at hadd
 have hkd0 := he.kind
 obtain ⟨st,hst⟩ : ∃ st,st = widS := ⟨_,rfl⟩
 have hgd := widS_good L hg
 have hpl := fold_len (widS_len) L []
 rw [← hst] at hgd hpl
 rw [List.length_nil,Nat.zero_add] at hpl
 obtain ⟨p,hp⟩ : ∃ p,L.foldl st [] = p := ⟨_,rfl⟩
 rw [hp] at hgd hpl
 refine ⟨p,hgd,hpl, ?_⟩
 obtain ⟨off,op,row,⟨ck,cn,cs⟩,nm,kd⟩ := e
 obtain ⟨sid,fs⟩ := s
 simp only [Sch.d,Evt.d] at h ho h1 hadd hk1 hkd0 ⊢
 subst ho h1
 have hZl : ((sgrow ⟨sid,fs⟩ nm kd).fields.map Fld.d).length = fs.length + 1 := by simp [sgrow]
 generalize (sgrow ⟨sid,fs⟩ nm kd).fields.map Fld.d = Z at *
 generalize fs.length = zn at *
 generalize fs.map Fld.d = X at *
 generalize ce row = Y at *
 have hm : ¬ n = 18446744073709551615 := by omega
 have hw : IntKind.wrap .u64 (n + 1) = n + 1 := wrap_u64 (by omega) (by omega)
 refine run_goal (rs:=[.tmp 4]) (ts:=[3]) Tryz.func57 rfl rfl rfl (by kernel_rfl) (by kernel_rfl) (.inl sp_57) (by simp [Tryz.f57]) ?_
 intro T hT
 simp -dsimp -implicitDefEqProofs (disch:=first|omega|assumption) [startSlots,nI,wI,rg2,h,hm,hw,hadd,hZl]
 generalize hz : loopT _ _ _ _ _ _ = z
 revert z
 refine loop_any (σ:=Nat) (fun i => [(0,.ptr 0 0),(3,.ptr 2 0),(6,.arr 3 ((L.take i).foldl st []).length),(14,.d (.int .i64 i))]) (fun i => [.box [.d (.int .u32 (sid + 1)),.d (.list Z),.arr 1 L.length,.d (.int .u64 n)],.arr 1 L 0,.box [.d (.int .u64 (n + 1)),.d (.int .u8 3),.d (.list Y),.d (.int .u8 ck),.d (.int .i64 cn),.d (.str cs),.d (.str nm),.d (.int .u8 kd)],.arr 1 ((L.take i).foldl st []) 0]) (fun i => i ≤ L.length) (fun i => L.length - i) 0 ?_ ?_ ?_
 ·exact Nat.zero_le _
 ·simp -dsimp -implicitDefEqProofs (disch:=first|omega|assumption) [rg2]
 intro T' f hT' i hi ih
 by_cases hlt : i < L.length
 ·obtain ⟨⟨k',n',s'⟩,r',hx,hrb'⟩ := hg L[i] (List.getElem_mem hlt)
  have hmore := fold_more (st := st) (p := []) hlt
  have hlen := fold_len (widS_len) (L.take i) []
  rw [← hst] at hlen
  simp only [List.length_take,List.length_nil] at hlen
  rw [hx,hst,← hst] at hmore
  simp only [Cel.d] at hx hmore
  have ihn := ih (i + 1)
  rw [hmore] at ihn
  generalize (L.take i).foldl st [] = q at *
  have hwd : widS q (.list (.agg [.int .u8 k',.int .i64 n',.str s'] :: ce r')) = q ++ [.list (.agg [.int .u8 k',.int .i64 n',.str s'] :: ce r' ++ [Cel.none.d])] := rfl
  rw [hst,hwd] at ihn
  simp only [Cel.none,Cel.d] at ihn
  simp -dsimp -implicitDefEqProofs (disch:=first|omega|assumption) [nI,wI,rg2,hlt,hx]
  refine ihn _ _ (by omega) (by omega) ?_
  simp -dsimp -implicitDefEqProofs (disch:=first|omega|assumption) [rg2]
 ·have e : i = L.length := by omega
  subst e
  have htk : (L.take L.length).foldl st [] = p := by rw [List.take_length,hp]
  simp only [htk] at *
  subst hT'
  simp -dsimp -implicitDefEqProofs (disch:=first|omega|assumption) [nI,wI,rg2,hlt]
  simpa -dsimp -implicitDefEqProofs (disch:=first|omega|assumption) [nI,wI] using hT
end Go.Am.Ab
namespace Go.Am.Ab
open Go.Proofs
set_option maxHeartbeats 8000000
set_option maxRecDepth 4000
def greatE (e : Evt) : Bool := decide (50 < e.row.length) || decide (500 < e.key.s.size) || decide (500 < e.name.size) || e.row.any fun c => decide (500 < c.s.size)
def Evt.at (e : Evt) (n : Nat) : Evt := { e with off := (n : Int) + 1 }
def stepS (s : Sch) (e : Evt) : Sch := if e.op = 3 then sgrow s e.name e.kind else s
def well : Sch → Nat → List Evt → List Evt
 | _,_,[] => []
 | s,n,e :: r => if greatE e = false ∧ echk s (e.at n) = 0 then e.at n :: well (stepS s e) (n + 1) r else well s n r
structure EvtI (e : Evt) : Prop where
 row : ∀ c ∈ e.row,celW c
 key : celW e.key
 k0 : 0 ≤ e.kind
 k1 : e.kind ≤ 255
theorem evt_wf {e : Evt} (h : EvtI e) (hg : greatE e = false) : e.wf ∧ e.row.length ≤ 50 ∧ e.key.s.size ≤ 500 ∧ (∀ c ∈ e.row,c.s.size ≤ 500) := by
 unfold greatE at hg
 simp only [Bool.or_eq_false_iff,decide_eq_false_iff_not,List.any_eq_false,decide_eq_true_eq] at hg
 obtain ⟨⟨⟨h1,h2⟩,h3⟩,h4⟩ := hg
 exact ⟨⟨h.row,h.key,by omega,by omega,h.k0⟩,by omega,by omega,fun c hc => by have := h4 c hc; omega⟩
theorem evt_at {e : Evt} (h : e.wf) (n : Nat) : (e.at n).wf := ⟨h.row,h.key,h.len,h.name,h.kind⟩
theorem echk_ok {s : Sch} {e : Evt} (h : echk s e = 0) : schk s = 0 ∧ ((e.op = 1 ∧ rchk e.row = 0 ∧ e.row.length = s.fields.length ∧ 0 < e.row.length) ∨ e.op = 2 ∨ (e.op = 3 ∧ sadd s e.name e.kind = 0)) := by
 unfold echk at h
 by_cases h1 : schk s = 0
 ·obtain ⟨n1,n8⟩ := schk_ok h1
  rw [if_neg (fun x => x h1)] at h
  refine ⟨h1, ?_⟩
  split at h
  ·cases h
  ·split at h
   ·cases h
   ·split at h
    ·rename_i ho
     split at h
     ·omega
     ·rename_i hr
      have hr : rchk e.row = 0 := by omega
      unfold fit at h
      split at h
      ·cases h
      ·rename_i hl
       rw [List.length_map] at hl
       exact .inl ⟨ho,hr,by omega,by omega⟩
    ·split at h
     ·rename_i ho; exact .inr (.inl ho)
     ·exact .inr (.inr ⟨by omega,h⟩)
 ·rw [if_pos h1] at h; exact absurd h h1
theorem sgrow_w {s : Sch} {nm : ByteArray} {k : Int} (h : SchW s) (hn : nm.size < 1000000000) (h0 : sadd s nm k = 0) : SchW (sgrow s nm k) := by
 unfold sadd at h0
 by_cases h1 : schk s = 0
 ·obtain ⟨n1,n8⟩ := schk_ok h1
  rw [if_neg (fun x => x h1)] at h0
  split at h0
  ·cases h0
  ·rename_i h2
   have hl := lastId_get (fs := s.fields) (by omega)
   have hw := h.flds _ (List.getElem_mem (show s.fields.length - 1 < s.fields.length by omega))
   have i0 := h.id0
   have i1 := h.id1
   refine ⟨by simp only [sgrow]; omega,by simp only [sgrow]; omega,fun f hf => ?_,by simp only [sgrow,List.length_append,List.length_cons,List.length_nil]; omega⟩
   rcases List.mem_append.1 hf with hf | hf
   ·exact h.flds f hf
   ·rw [List.mem_singleton.1 hf]
    simp only
    omega
 ·rw [if_pos h1] at h0; exact absurd h0 h1
theorem stepS_w {s : Sch} {e : Evt} (h : SchW s) (he : e.wf) (h0 : echk s e = 0) : SchW (stepS s e) := by
 obtain ⟨_,h1⟩ := echk_ok h0
 unfold stepS
 split
 ·rcases h1 with h1 | h1 | h1
  ·omega
  ·omega
  ·exact sgrow_w h he.name h1.2
 ·exact h
def stB (s : Sch) (v : V) (n : Nat) : Obj := .box [.d (.int .u32 s.id),.d (.list (s.fields.map Fld.d)),v,.d (.int .u64 n)]
def stH (s : Sch) (n : Nat) (k : Nat) : Option (List D) → List Obj × List Obj
 | none => ([stB s .nilS n],[])
 | some L => ([stB s (.arr k L.length) n],[.arr 1 L 0])
theorem rowG_mono {b d : Nat} {x : D} (h : rowG b x) (hd : b ≤ d) : rowG d x := by
 obtain ⟨c,r,e,hb⟩ := h; exact ⟨c,r,e,by omega⟩
def rowsG (o : Option (List D)) (n : Nat) : Prop := ∀ L,o = some L → (∀ x ∈ L,rowG (n + 50) x) ∧ L.length ≤ n
theorem rdo_any {s : Sch} {e : Evt} {n : Nat} {o : Option (List D)} (hs : SchW s) (he : e.wf) (hk1 : e.kind ≤ 255) (hr5 : e.row.length ≤ 50) (hn : n < 100000) (ho : e.off = (n : Int) + 1) (hg : rowsG o n) :
  if echk s e = 0 then ∃ L',rowsG (some L') (n + 1) ∧ R 57 [.ptr 0 0,.d e.d] ((stH s n 1 o).1 ++ (stH s n 1 o).2) = some ([.d (.int .i64 0)],(match o with | none => [stB (stepS s e) (.arr 1 L'.length) (n + 1)] | some L => [stB (stepS s e) (.arr 2 L'.length) (n + 1),.arr 1 L 0]) ++ [.arr 1 L' 0])
  else R 57 [.ptr 0 0,.d e.d] ((stH s n 1 o).1 ++ (stH s n 1 o).2) = some ([.d (.int .i64 (echk s e))],(stH s n 1 o).1 ++ (stH s n 1 o).2) := by
 by_cases hc : echk s e = 0
 ·rw [if_pos hc]
  obtain ⟨hsk,h1⟩ := echk_ok hc
  cases o with
  | none =>
   simp only [stH,stB,List.append_nil]
   rcases h1 with ⟨h1,hr,hl,hp⟩ | h1 | ⟨h1,h0⟩
   ·obtain ⟨c0,r0,hr0⟩ : ∃ c0 r0,e.row.map fix = c0 :: r0 := by
     cases hh : e.row with
     | nil => rw [hh] at hp; simp at hp
     | cons a b => exact ⟨fix a,b.map fix,rfl⟩
    obtain ⟨L',g1,g2,g3⟩ := rdo_put0 (L := []) (b := n + 50) rfl hs he hk1 (n := n) (by omega) (by omega) ho hc h1 hr0 (by rw [← List.length_map (f := fix),hr0,List.length_cons] at hr5; omega) (fun x hx => by cases hx) (by omega)
    refine ⟨L',fun L h => ?_, ?_⟩
    ·cases h; exact ⟨fun x hx => rowG_mono (g1 x hx) (by omega),by simp only [List.length_nil] at g2; omega⟩
    ·rw [g3]; simp [stepS,h1]
   ·obtain ⟨L',g1,g2,g3⟩ := rdo_rem0 (L := []) (b := n + 50) rfl hs he hk1 (n := n) (by omega) (by omega) ho hc h1 (fun x hx => by cases hx) (by omega)
    refine ⟨L',fun L h => ?_, ?_⟩
    ·cases h; exact ⟨fun x hx => rowG_mono (g1 x hx) (by omega),by simp only [List.length_nil] at g2; omega⟩
    ·rw [g3]; simp [stepS,h1]
   ·obtain ⟨L',g1,g2,g3⟩ := rdo_wid0 (L := []) (b := n + 50) rfl hs he hk1 (n := n) (by omega) (by omega) ho hc h1 h0 (fun x hx => by cases hx) (by omega)
    refine ⟨L',fun L h => ?_, ?_⟩
    ·cases h; exact ⟨fun x hx => rowG_mono (g1 x hx) (by omega),by simp only [List.length_nil] at g2; omega⟩
    ·rw [g3]; simp [stepS,h1,sgrow]
  | some L =>
   obtain ⟨hg1,hg2⟩ := hg L rfl
   simp only [stH,stB,List.cons_append,List.nil_append]
   rcases h1 with ⟨h1,hr,hl,hp⟩ | h1 | ⟨h1,h0⟩
   ·obtain ⟨c0,r0,hr0⟩ : ∃ c0 r0,e.row.map fix = c0 :: r0 := by
     cases hh : e.row with
     | nil => rw [hh] at hp; simp at hp
     | cons a b => exact ⟨fix a,b.map fix,rfl⟩
    obtain ⟨L',g1,g2,g3⟩ := rdo_put1 (L := L) (b := n + 50) (by omega) hs he hk1 (n := n) (by omega) (by omega) ho hc h1 hr0 (by rw [← List.length_map (f := fix),hr0,List.length_cons] at hr5; omega) hg1 (by omega)
    refine ⟨L',fun L h => ?_, ?_⟩
    ·cases h; exact ⟨fun x hx => rowG_mono (g1 x hx) (by omega),by omega⟩
    ·rw [g3]; simp [stepS,h1]
   ·obtain ⟨L',g1,g2,g3⟩ := rdo_rem1 (L := L) (b := n + 50) (by omega) hs he hk1 (n := n) (by omega) (by omega) ho hc h1 hg1 (by omega)
    refine ⟨L',fun L h => ?_, ?_⟩
    ·cases h; exact ⟨fun x hx => rowG_mono (g1 x hx) (by omega),by omega⟩
    ·rw [g3]; simp [stepS,h1]
   ·obtain ⟨L',g1,g2,g3⟩ := rdo_wid1 (L := L) (b := n + 50) (by omega) hs he hk1 (n := n) (by omega) (by omega) ho hc h1 h0 hg1 (by omega)
    refine ⟨L',fun L h => ?_, ?_⟩
    ·cases h; exact ⟨fun x hx => rowG_mono (g1 x hx) (by omega),by omega⟩
    ·rw [g3]; simp [stepS,h1,sgrow]
 ·rw [if_neg hc]
  cases o with
  | none =>
   simp only [stH,stB,List.append_nil]
   exact rdo_no0 (L := []) hs he hk1 (by omega) (by omega) ho hc
  | some L =>
   simp only [stH,stB,List.cons_append,List.nil_append]
   exact rdo_no1 (L := L) hs he hk1 (by omega) (by omega) ho hc
end Go.Am.Ab
namespace Go.Am.Ab
open Go.Proofs
set_option maxHeartbeats 8000000
set_option maxRecDepth 4000
theorem well_len : ∀ (l : List Evt) (s : Sch) (n : Nat),(well s n l).length ≤ l.length
 | [],_,_ => Nat.le_refl _
 | e :: r,s,n => by
  unfold well
  split
  ·have := well_len r (stepS s e) (n + 1); simp only [List.length_cons]; omega
  ·have := well_len r s n; simp only [List.length_cons]; omega
@[simp] theorem allSize_evt (l : List Evt) : allSize 8 (l.map Evt.d) = true := allSize_map0 l fun _ => rfl
theorem well_runs {s : Sch} (hs : SchW s) (l : List Evt) (hl : ∀ e ∈ l,EvtI e) (hn : l.length ≤ 9223372036854775807) (most : Nat) (hm : most ≤ 100) :
  R 24 [.d s.d,.d (.list (l.map Evt.d)),.d (.int .i64 most)] [] = some ([.arr 0 (well s 0 (l.take most)).length],[.arr 8 ((well s 0 (l.take most)).map Evt.d) 0]) := by
 have hwm := well_len (l.take most) s 0
 rw [List.length_take] at hwm
 obtain ⟨s0,rfl⟩ : ∃ t,t = s := ⟨_,rfl⟩
 obtain ⟨W,hW⟩ : ∃ W,W = well s0 0 (l.take most) := ⟨_,rfl⟩
 rw [← hW] at hwm ⊢
 have hsd : s0.d = .agg [.int .u32 s0.id,.list (s0.fields.map Fld.d)] := rfl
 rw [hsd]
 refine run_goal (rs:=[.tmp 6]) (ts:=[25]) Tryz.func24 rfl rfl rfl (by kernel_rfl) (by kernel_rfl) (.inl sp_24) (by simp [Tryz.f24]) ?_
 intro T hT
 simp -dsimp -implicitDefEqProofs (disch:=first|omega|assumption) [startSlots,nI,wI]
 generalize hz : loopT _ _ _ _ _ _ = z
 revert z
 refine loop_any (σ:=Nat × Sch × List Evt × Option (List D)) (fun x => [(1,.d (.list (l.map Evt.d))),(2,.d (.int .i64 most)),(7,.ptr 0 0),(8,.arr 1 x.2.2.1.length),(9,.d (.int .i64 x.1))]) (fun x => (stH x.2.1 x.2.2.1.length 2 x.2.2.2).1 ++ [.arr 8 (x.2.2.1.map Evt.d) 0] ++ (stH x.2.1 x.2.2.1.length 2 x.2.2.2).2) (fun x => x.1 ≤ l.length ∧ x.1 ≤ most ∧ SchW x.2.1 ∧ x.2.2.1.length ≤ x.1 ∧ rowsG x.2.2.2 x.2.2.1.length ∧ W = x.2.2.1 ++ well x.2.1 x.2.2.1.length ((l.take most).drop x.1)) (fun x => l.length - x.1) (0,s0,[],none) ?_ ?_ ?_
 ·exact ⟨Nat.zero_le _,Nat.zero_le _,hs,Nat.le_refl _,fun L h => (by cases h),by simp [hW]⟩
 ·simp -dsimp -implicitDefEqProofs (disch:=first|omega|assumption) [stH,stB]
 rintro T' f hT' ⟨i,t,out,o⟩ ⟨hi,him,ht,hol,hg,hw⟩ ih
 simp only at hi him ht hol hg hw ih ⊢
 by_cases h1 : i < l.length
 ·by_cases h2 : i < most
  ·have h2' : (i : Int) < most := by omega
   obtain ⟨e,hx⟩ : ∃ e,l[i] = e := ⟨_,rfl⟩
   have hei := hl e (hx ▸ List.getElem_mem h1)
   have hdr : (l.take most).drop i = e :: (l.take most).drop (i + 1) := by
    rw [List.drop_eq_getElem_cons (by rw [List.length_take]; omega),List.getElem_take,hx]
   rw [hdr] at hw
   unfold well at hw
   have hgr := great_runs (e.at out.length)
   have hge : (decide (50 < (e.at out.length).row.length) || decide (500 < (e.at out.length).key.s.size) || decide (500 < (e.at out.length).name.size) || (e.at out.length).row.any fun c => decide (500 < c.s.size)) = greatE e := rfl
   rw [hge] at hgr
   have hlen : (l.map Evt.d).length = l.length := List.length_map _
   have wt : IntKind.wrap .u64 ((out.length : Int) + 1) = out.length + 1 := wrap_u64 (by omega) (by omega)
   have hxd : e.d = .agg [.int .u64 e.off,.int .u8 e.op,.list (ce e.row),.int .u8 e.key.kind,.int .i64 e.key.n,.str e.key.s,.str e.name,.int .u8 e.kind] := rfl
   have had : (e.at out.length).d = .agg [.int .u64 ((out.length : Int) + 1),.int .u8 e.op,.list (ce e.row),.int .u8 e.key.kind,.int .i64 e.key.n,.str e.key.s,.str e.name,.int .u8 e.kind] := rfl
   rw [had] at hgr
   cases hgv : greatE e with
   | true =>
    rw [hgv] at hgr hw
    rw [if_neg (by simp)] at hw
    have ihn := ih (i + 1,t,out,o)
    simp only at ihn
    have hms : l.length - (i + 1) < l.length - i := by omega
    have hinv : i + 1 ≤ l.length ∧ i + 1 ≤ most ∧ SchW t ∧ out.length ≤ i + 1 ∧ rowsG o out.length ∧ W = out ++ well t out.length ((l.take most).drop (i + 1)) := ⟨by omega,by omega,ht,by omega,hg,hw⟩
    generalize out.length = n at *
    generalize out.map Evt.d = OO at *
    cases o with
    | none =>
     simp only [stH,stB,List.append_nil,List.cons_append,List.nil_append] at ihn ⊢
     obtain ⟨off,op,row,⟨ck,cn,cs⟩,nm,kd⟩ := e
     simp only at hgr hxd
     simp -dsimp -implicitDefEqProofs (disch:=first|omega|assumption) [nI,wI,h1,h2',hx,hxd,hgr,wt,hlen]
     refine ihn _ _ hinv hms ?_
     simp -dsimp -implicitDefEqProofs (disch:=first|omega|assumption)
    | some L =>
     simp only [stH,stB,List.append_nil,List.cons_append,List.nil_append] at ihn ⊢
     obtain ⟨off,op,row,⟨ck,cn,cs⟩,nm,kd⟩ := e
     simp only at hgr hxd
     simp -dsimp -implicitDefEqProofs (disch:=first|omega|assumption) [nI,wI,h1,h2',hx,hxd,hgr,wt,hlen]
     refine ihn _ _ hinv hms ?_
     simp -dsimp -implicitDefEqProofs (disch:=first|omega|assumption)
   | false =>
    rw [hgv] at hgr hw
    obtain ⟨hwf,h5,hk5,_⟩ := evt_wf hei hgv
    have hdo := rdo_any ht (evt_at hwf out.length) hei.k1 h5 (n := out.length) (o := o) (by omega) rfl hg
    rw [had] at hdo
    by_cases hc : echk t (e.at out.length) = 0
    ·rw [if_pos hc] at hdo
     rw [if_pos ⟨rfl,hc⟩] at hw
     obtain ⟨L',hL',hdo⟩ := hdo
     have hlo : (out ++ [e.at out.length]).length = out.length + 1 := by simp
     have hstp : stepS t (e.at out.length) = stepS t e := rfl
     rw [hstp] at hdo
     have ihn := ih (i + 1,stepS t e,out ++ [e.at out.length],some L')
     simp only at ihn
     have hms : l.length - (i + 1) < l.length - i := by omega
     have hinv : i + 1 ≤ l.length ∧ i + 1 ≤ most ∧ SchW (stepS t e) ∧ (out ++ [e.at out.length]).length ≤ i + 1 ∧ rowsG (some L') (out ++ [e.at out.length]).length ∧ W = out ++ [e.at out.length] ++ well (stepS t e) (out ++ [e.at out.length]).length ((l.take most).drop (i + 1)) := ⟨by omega,by omega,stepS_w (e := e.at out.length) ht (evt_at hwf out.length) hc,by rw [hlo]; omega,by rw [hlo]; exact hL',by rw [hlo,hw]; simp⟩
     rw [hlo] at hinv
     simp only [hlo,List.map_append,List.map_cons,List.map_nil,had] at ihn
     have hOl : (out.map Evt.d).length = out.length := List.length_map _
     have hOa := allSize_evt out
     generalize out.length = n at *
     generalize out.map Evt.d = OO at *
     cases o with
     | none =>
      simp only [stH,stB,List.append_nil,List.cons_append,List.nil_append] at ihn hdo ⊢
      obtain ⟨off,op,row,⟨ck,cn,cs⟩,nm,kd⟩ := e
      simp only at hgr hxd hdo ihn
      simp -dsimp -implicitDefEqProofs (disch:=first|omega|assumption) [nI,wI,h1,h2',hx,hxd,hgr,wt,hlen,hdo,hOl]
      refine ihn _ _ hinv hms ?_
      simp -dsimp -implicitDefEqProofs (disch:=first|omega|assumption) [hOl]
     | some L =>
      simp only [stH,stB,List.append_nil,List.cons_append,List.nil_append] at ihn hdo ⊢
      obtain ⟨off,op,row,⟨ck,cn,cs⟩,nm,kd⟩ := e
      simp only at hgr hxd hdo ihn
      simp -dsimp -implicitDefEqProofs (disch:=first|omega|assumption) [nI,wI,h1,h2',hx,hxd,hgr,wt,hlen,hdo,hOl]
      refine ihn _ _ hinv hms ?_
      simp -dsimp -implicitDefEqProofs (disch:=first|omega|assumption) [hOl]
    ·rw [if_neg hc] at hdo
     rw [if_neg (fun h => hc h.2)] at hw
     have ihn := ih (i + 1,t,out,o)
     simp only at ihn
     have hms : l.length - (i + 1) < l.length - i := by omega
     have hinv : i + 1 ≤ l.length ∧ i + 1 ≤ most ∧ SchW t ∧ out.length ≤ i + 1 ∧ rowsG o out.length ∧ W = out ++ well t out.length ((l.take most).drop (i + 1)) := ⟨by omega,by omega,ht,by omega,hg,hw⟩
     generalize echk t (e.at out.length) = q at *
     generalize out.length = n at *
     generalize out.map Evt.d = OO at *
     cases o with
     | none =>
      simp only [stH,stB,List.append_nil,List.cons_append,List.nil_append] at ihn hdo ⊢
      obtain ⟨off,op,row,⟨ck,cn,cs⟩,nm,kd⟩ := e
      simp only at hgr hxd hdo
      simp -dsimp -implicitDefEqProofs (disch:=first|omega|assumption) [nI,wI,h1,h2',hx,hxd,hgr,wt,hlen,hdo,hc]
      refine ihn _ _ hinv hms ?_
      simp -dsimp -implicitDefEqProofs (disch:=first|omega|assumption)
     | some L =>
      simp only [stH,stB,List.append_nil,List.cons_append,List.nil_append] at ihn hdo ⊢
      obtain ⟨off,op,row,⟨ck,cn,cs⟩,nm,kd⟩ := e
      simp only at hgr hxd hdo
      simp -dsimp -implicitDefEqProofs (disch:=first|omega|assumption) [nI,wI,h1,h2',hx,hxd,hgr,wt,hlen,hdo,hc]
      refine ihn _ _ hinv hms ?_
      simp -dsimp -implicitDefEqProofs (disch:=first|omega|assumption)
  ·have h2' : ¬ (i : Int) < most := by omega
   have hz : (l.take most).drop i = [] := List.drop_eq_nil_of_le (by rw [List.length_take]; omega)
   rw [hz,show well t out.length [] = [] from rfl,List.append_nil] at hw
   rw [hw] at hT
   subst hT'
   cases o with
   | none =>
    simp only [stH,stB,List.append_nil,List.cons_append,List.nil_append]
    simp -dsimp -implicitDefEqProofs (disch:=first|omega|assumption) [nI,wI,h1,h2']
    simpa -dsimp -implicitDefEqProofs (disch:=first|omega|assumption) [nI,wI] using hT
   | some L =>
    simp only [stH,stB,List.append_nil,List.cons_append,List.nil_append]
    simp -dsimp -implicitDefEqProofs (disch:=first|omega|assumption) [nI,wI,h1,h2']
    simpa -dsimp -implicitDefEqProofs (disch:=first|omega|assumption) [nI,wI] using hT
 ·have hz : (l.take most).drop i = [] := List.drop_eq_nil_of_le (by rw [List.length_take]; omega)
  rw [hz,show well t out.length [] = [] from rfl,List.append_nil] at hw
  rw [hw] at hT
  subst hT'
  cases o with
  | none =>
   simp only [stH,stB,List.append_nil,List.cons_append,List.nil_append]
   simp -dsimp -implicitDefEqProofs (disch:=first|omega|assumption) [nI,wI,h1]
   simpa -dsimp -implicitDefEqProofs (disch:=first|omega|assumption) [nI,wI] using hT
  | some L =>
   simp only [stH,stB,List.append_nil,List.cons_append,List.nil_append]
   simp -dsimp -implicitDefEqProofs (disch:=first|omega|assumption) [nI,wI,h1]
   simpa -dsimp -implicitDefEqProofs (disch:=first|omega|assumption) [nI,wI] using hT
end Go.Am.Ab
