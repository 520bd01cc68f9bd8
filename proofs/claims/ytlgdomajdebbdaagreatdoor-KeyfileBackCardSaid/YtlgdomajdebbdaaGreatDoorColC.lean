/- Columns: their parts, read. -/
import Derived.Test.YtlgdomajdebbdaaGreatDoorColA
import Derived.Test.YtlgdomajdebbdaaGreatDoorParsing
import Derived.Test.YtlgdomajdebbdaaGreatDoorColB
import Derived.Test.YtlgdomajdebbdaaGreatDoorReadB
set_option linter.all false
namespace Go.Am.Ab
open Go.Proofs
set_option maxHeartbeats 4000000
set_option maxRecDepth 4000
abbrev uc (l : List Nat) : List D := l.map fun (n : Nat) => D.int .u64 (n : Int)
def Is (q r : Option (List V × List Obj)) : Prop := r = q
theorem not_is {q : Option (List V × List Obj)} (h : q ≠ none) : ¬ Is q none := fun g => h g.symm
def unpackC (b : List UInt8) (n : Nat) : List Nat × Nat := if b.length ≠ (n + 7) / 8 then ([],40) else if num b < 2 ^ n then (ups 1 (num b) n,0) else ([],40)
theorem unpack1_runs (b : List UInt8) (n : Nat) (hn : n ≤ 256) (hb : b.length < 1000000) : R 190 [B b,.d (.int .i64 n),.d (.int .i64 1)] [] = some ([.arr 0 (unpackC b n).1.length,E (unpackC b n).2],[.arr 1 (uc (unpackC b n).1) 0]) := by
 unfold unpackC
 by_cases h1 : b.length ≠ (n + 7) / 8
 ·rw [if_pos h1]
  exact unpack_len b n 1 (by omega) hn (by omega) (by rw [Nat.mul_one]; exact h1)
 ·rw [if_neg h1]
  by_cases h2 : num b < 2 ^ n
  ·rw [if_pos h2]
   have := unpack_yes b n 1 hn (by omega) (by rw [Nat.mul_one]; omega) (by rw [Nat.mul_one]; exact h2)
   rw [show ((ups 1 (num b) n,0) : List Nat × Nat).1.length = n from ups_length _ _ _]
   exact this
  ·rw [if_neg h2]
   exact unpack_high b n 1 hn (by omega) (by rw [Nat.mul_one]; omega) (by rw [Nat.mul_one]; exact h2)
def mkS (l : List UInt8) : ByteArray := ⟨l.toArray⟩
def pTexts : List Int → List UInt8 → PR (List ByteArray)
 | [],b => .ok [] b
 | k :: r,b => if k < 0 ∨ 64 < k then .err 40 else if (b.length : Int) < k then .err 30 else (pTexts r (b.drop k.toNat)).map (mkS (b.take k.toNat) :: ·)
def pCut (n : Int) (b : List UInt8) : PR (List ByteArray) :=
 if (get b).2.2 ≠ 0 then .err (get b).2.2 else
 if (b.drop (get b).2.1).length < (get b).1 then .err 30 else
 if (readI ((b.drop (get b).2.1).take (get b).1) n).2 ≠ 0 then .err (readI ((b.drop (get b).2.1).take (get b).1) n).2 else
 pTexts (readI ((b.drop (get b).2.1).take (get b).1) n).1 ((b.drop (get b).2.1).drop (get b).1)
def CutR : PR (List ByteArray) → Option (List V × List Obj)
 | .err e => some ([.arr 0 0,.arr 1 0,E e],[.arr 1 [] 0,.arr 1 [] 0])
 | .ok l r => some ([.arr 0 l.length,B r,E 0],[.arr 1 (l.map D.str) 0])
theorem cutR_some (p : PR (List ByteArray)) : CutR p ≠ none := by cases p <;> simp [CutR]
@[simp] theorem byteOf_byteD (b : UInt8) : byteOf? (byteD b) = some b := by
 simp [byteOf?,byteD]
theorem mapM_bytes : ∀ l : List UInt8,(bytes l).mapM byteOf? = some l
 | [] => rfl
 | x :: r => by
  have := mapM_bytes r
  simp only [bytes] at this ⊢
  rw [List.map_cons,List.mapM_cons,byteOf_byteD,this]; rfl
end Go.Am.Ab
namespace Go.Am.Ab
open Go.Proofs
set_option maxHeartbeats 4000000
set_option maxRecDepth 4000
theorem readI_len (b : List UInt8) (n : Int) : (readI b n).1.length ≤ 256 := by
 unfold readI
 split
 ·simp
 ·rename_i h
  cases b with
  | nil => simp
  | cons c r =>
   simp only
   split
   ·simp
   ·unfold pEnd
    split
    ·simp
    ·rename_i l r2 hp
     split
     ·simp
     ·split
      ·have := (pList_is hp).1
       simp only
       omega
      ·simp
def CInv2 (sz : List Int) (b0 : List UInt8) (x : Nat × List ByteArray × List UInt8) : Prop := x.1 ≤ sz.length ∧ x.2.1.length = x.1 ∧ x.2.2.length ≤ b0.length ∧ pTexts sz b0 = (pTexts (sz.drop x.1) x.2.2).map (x.2.1 ++ ·)
theorem cut_runs (b0 : List UInt8) (n : Int) (hn : isI64 n) (hb0 : b0.length < 1000000) : Is (CutR (pCut n b0)) (R 254 [B b0,.d (.int .i64 n)] []) := by
 have hg := get_runs b0 (by omega)
 have hgu := get_used b0
 have hgl := get_lt b0
 unfold pCut
 obtain ⟨g1,hg1⟩ : ∃ g,g = (get b0).1 := ⟨_,rfl⟩
 obtain ⟨g2,hg2⟩ : ∃ g,g = (get b0).2.1 := ⟨_,rfl⟩
 obtain ⟨g3,hg3⟩ : ∃ g,g = (get b0).2.2 := ⟨_,rfl⟩
 rw [← hg1,← hg2,← hg3] at hg
 rw [← hg2] at hgu
 rw [← hg1] at hgl
 rw [← hg1,← hg2,← hg3]
 by_cases e0 : g3 ≠ 0
 ·rw [if_pos e0]
  have e0' : ¬ (g3 : Int) = 0 := by omega
  simp only [CutR]
  refine run_any (rs:=[.tmp 4,.tmp 5,.tmp 6]) (ts:=[180,24,25]) Tryz.func254 rfl rfl rfl (by kernel_rfl) (by kernel_rfl) (.inl sp_254) (by simp [Tryz.f254]) (not_is (by simp)) ?_
  simp -dsimp -implicitDefEqProofs (disch:=first|omega|assumption) [startSlots,nI,wI,hg,e0,e0']
  simp [Is,E]
 rw [if_neg e0]
 have e0' : g3 = 0 := by omega
 subst e0'
 obtain ⟨b1,hb1⟩ : ∃ b1,b1 = b0.drop g2 := ⟨_,rfl⟩
 have hb1' : List.drop g2 (bytes b0) = bytes b1 := by rw [hb1,bytes,bytes,List.map_drop]
 have hb1l : b1.length < 1000000 := by rw [hb1,List.length_drop]; omega
 rw [← hb1]
 have hdl : b1.length = b0.length - g2 := by rw [hb1,List.length_drop]
 have hw1 : IntKind.u64.wrap (b1.length : Int) = b1.length := wrap_u64 (by omega) (by omega)
 by_cases e1 : b1.length < g1
 ·rw [if_pos e1]
  have e1' : (b1.length : Int) < g1 := by omega
  simp only [CutR]
  refine run_any (rs:=[.tmp 4,.tmp 5,.tmp 6]) (ts:=[180,24,25]) Tryz.func254 rfl rfl rfl (by kernel_rfl) (by kernel_rfl) (.inl sp_254) (by simp [Tryz.f254]) (not_is (by simp)) ?_
  simp -dsimp -implicitDefEqProofs (disch:=first|omega|assumption) [startSlots,nI,wI,hg,hgu,hb1',hw1,e1,e1']
  simp [Is,E]
 rw [if_neg e1]
 have e1' : ¬ (b1.length : Int) < g1 := by omega
 have e1b : g1 ≤ b1.length := by omega
 obtain ⟨bt,hbt⟩ : ∃ bt,bt = b1.take g1 := ⟨_,rfl⟩
 obtain ⟨bd,hbd⟩ : ∃ bd,bd = b1.drop g1 := ⟨_,rfl⟩
 have hbt' : List.take g1 (bytes b1) = bytes bt := by rw [hbt,bytes,bytes,List.map_take]
 have hbd' : List.drop g1 (bytes b1) = bytes bd := by rw [hbd,bytes,bytes,List.map_drop]
 have hbtl : bt.length < 1000000 := by rw [hbt,List.length_take]; omega
 have hbdl : bd.length < 1000000 := by rw [hbd,List.length_drop]; omega
 rw [← hbt,← hbd]
 have hrd := read_runs bt n hbtl hn
 have hrl := readI_len bt n
 obtain ⟨q,hq⟩ : ∃ q,q = (readI bt n).2 := ⟨_,rfl⟩
 obtain ⟨sz,hsz⟩ : ∃ sz,sz = (readI bt n).1 := ⟨_,rfl⟩
 rw [← hq,← hsz] at hrd
 rw [← hsz] at hrl
 rw [← hq,← hsz]
 clear hg1 hg2 hg3 hb1 hbt hbd hq hsz
 by_cases e2 : q ≠ 0
 ·rw [if_pos e2]
  have e2' : ¬ (q : Int) = 0 := by omega
  simp only [CutR]
  refine run_any (rs:=[.tmp 4,.tmp 5,.tmp 6]) (ts:=[180,24,25]) Tryz.func254 rfl rfl rfl (by kernel_rfl) (by kernel_rfl) (.inl sp_254) (by simp [Tryz.f254]) (not_is (by simp)) ?_
  simp -dsimp -implicitDefEqProofs (disch:=first|omega|assumption) [startSlots,nI,wI,hg,hgu,hb1',hw1,e1,e1',e1b,hbt',hrd,e2,e2']
  simp [Is,E]
 rw [if_neg e2]
 have e2' : q = 0 := by omega
 subst e2'
 refine run_any (rs:=[.tmp 4,.tmp 5,.tmp 6]) (ts:=[180,24,25]) Tryz.func254 rfl rfl rfl (by kernel_rfl) (by kernel_rfl) (.inl sp_254) (by simp [Tryz.f254]) (not_is (cutR_some _)) ?_
 simp -dsimp -implicitDefEqProofs (disch:=first|omega|assumption) [startSlots,nI,wI,hg,hgu,hb1',hw1,e1,e1',e1b,hbt',hrd,hbd']
 generalize hT0 : Is (CutR (pTexts sz bd)) = T0
 have fin : ∀ p,pTexts sz bd = p → ∀ r,r = CutR p → T0 r := fun p hp r hr => by rw [← hT0]; show r = _; rw [hr,hp]
 generalize hz : loopT _ _ _ _ _ _ = z
 revert z
 refine loop_any (σ:=Nat × List ByteArray × List UInt8) (fun x => [(0,B x.2.2),(11,.arr 0 x.1),(45,.arr 1 sz.length),(46,.d (.int .i64 sz.length)),(47,.d (.int .i64 x.1))]) (fun x => [.arr 1 (x.2.1.map D.str) 0,.arr 1 (cs sz) 0]) (CInv2 sz bd) (fun x => sz.length - x.1) (0,[],bd) ?_ ?_ ?_
 ·exact ⟨Nat.zero_le _,rfl,Nat.le_refl _,by rw [List.drop_zero]; exact (PR.map_id (fun a => rfl) _).symm⟩
 ·simp -dsimp -implicitDefEqProofs (disch:=first|omega|assumption) [B,E]
 intro T' f hT' ⟨i,l,b⟩ ⟨hi,hl,hbl,hp⟩ ih
 simp only at hi hl hbl hp ih
 by_cases h1 : i < sz.length
 ·have gi := get_at h1
  have hdr : sz.drop i = at' sz i :: sz.drop (i + 1) := by rw [← gi]; exact List.drop_eq_getElem_cons h1
  rw [hdr,pTexts] at hp
  obtain ⟨k,hk⟩ : ∃ k,k = at' sz i := ⟨_,rfl⟩
  rw [← hk] at hp gi
  by_cases c1 : k < 0
  ·rw [if_pos (.inl c1)] at hp
   subst hT'
   simp -dsimp -implicitDefEqProofs (disch:=first|omega|assumption) [nI,wI,h1,gi,c1]
   exact fin _ hp _ (by simp [CutR,E])
  by_cases c2 : 64 < k
  ·rw [if_pos (.inr c2)] at hp
   subst hT'
   simp -dsimp -implicitDefEqProofs (disch:=first|omega|assumption) [nI,wI,h1,gi,c1,c2]
   exact fin _ hp _ (by simp [CutR,E])
  rw [if_neg (by omega)] at hp
  by_cases c3 : (b.length : Int) < k
  ·rw [if_pos c3] at hp
   subst hT'
   simp -dsimp -implicitDefEqProofs (disch:=first|omega|assumption) [nI,wI,h1,gi,c1,c2,c3]
   exact fin _ hp _ (by simp [CutR,E])
  rw [if_neg c3,PR.map_map] at hp
  obtain ⟨m,rfl⟩ : ∃ m : Nat,k = m := ⟨k.toNat,by omega⟩
  rw [Int.toNat_natCast] at hp
  have c4 : m ≤ b.length := by omega
  obtain ⟨bt,hbt⟩ : ∃ bt,bt = b.take m := ⟨_,rfl⟩
  obtain ⟨bd',hbd2⟩ : ∃ bd,bd = b.drop m := ⟨_,rfl⟩
  have hbt2 : List.take m (bytes b) = bytes bt := by rw [hbt,bytes,bytes,List.map_take]
  have hbd3 : List.drop m (bytes b) = bytes bd' := by rw [hbd2,bytes,bytes,List.map_drop]
  have hbdl2 : bd'.length ≤ b.length := by rw [hbd2,List.length_drop]; omega
  have hM := mapM_bytes bt
  rw [← hbt,← hbd2] at hp
  simp -dsimp -implicitDefEqProofs (disch:=first|omega|assumption) [nI,wI,h1,gi,c1,c2,c3,c4,hbt2,hbd3,hM]
  refine ih (i + 1,l ++ [mkS bt],bd') _ _ ⟨h1,by simp [hl],by simp only; omega, ?_⟩ (by simp only; omega) ?_
  ·rw [hp]; simp
  ·simp -dsimp -implicitDefEqProofs (disch:=first|omega|assumption) [B,hl,mkS]
 ·obtain rfl : i = sz.length := by omega
  rw [List.drop_length,pTexts,PR.map_ok,List.append_nil] at hp
  subst hT'
  simp -dsimp -implicitDefEqProofs (disch:=first|omega|assumption) [nI,wI]
  exact fin _ hp _ (by simp [CutR,E,B,hl])
end Go.Am.Ab
namespace Go.Am.Ab
open Go.Proofs
set_option maxHeartbeats 4000000
set_option maxRecDepth 4000
def pick (u : List ByteArray) (k : Int) : ByteArray := u.getD k.toNat noS
def pWords (n : Nat) (b : List UInt8) : List ByteArray × Nat :=
 match b with
 | [] => ([],30)
 | c :: r =>
  if c.toNat = 0 then
   match pCut n r with
   | .err e => ([],e)
   | .ok l rest => if rest ≠ [] then (l,32) else (l,0)
  else if (get r).2.2 ≠ 0 then ([],(get r).2.2)
  else if 1 < c.toNat ∨ n < (get r).1 then ([],40)
  else match pCut (get r).1 (r.drop (get r).2.1) with
   | .err e => ([],e)
   | .ok u rest =>
    if (readI rest n).2 ≠ 0 then ([],(readI rest n).2)
    else if ∀ k ∈ (readI rest n).1,0 ≤ k ∧ k < u.length then ((readI rest n).1.map (pick u),0) else ([],40)
theorem pTexts_err : ∀ {l : List Int} {b : List UInt8} {e : Nat},pTexts l b = .err e → e ≠ 0
 | [],b,e,h => by simp [pTexts] at h
 | k :: r,b,e,h => by
  unfold pTexts at h
  split at h
  ·simp at h; omega
  ·split at h
   ·simp at h; omega
   ·cases hp : pTexts r (b.drop k.toNat) with
    | err e' => rw [hp] at h; simp at h; have := pTexts_err hp; omega
    | ok l r => rw [hp] at h; simp at h
theorem pCut_err {n : Int} {b : List UInt8} {e : Nat} (h : pCut n b = .err e) : e ≠ 0 := by
 unfold pCut at h
 split at h
 ·simp at h; omega
 ·split at h
  ·simp at h; omega
  ·split at h
   ·simp at h; omega
   ·exact pTexts_err h
theorem pTexts_rest : ∀ {l : List Int} {b rest : List UInt8} {t : List ByteArray},pTexts l b = .ok t rest → rest.length ≤ b.length
 | [],b,_,_,h => by simp [pTexts] at h; simp [h.2]
 | k :: r,b,rest,t,h => by
  unfold pTexts at h
  split at h
  ·simp at h
  ·split at h
   ·simp at h
   ·cases hp : pTexts r (b.drop k.toNat) with
    | err e' => rw [hp] at h; simp at h
    | ok l r2 =>
     rw [hp] at h
     simp at h
     have := pTexts_rest hp
     rw [← h.2]
     simp only [List.length_drop] at this
     omega
theorem pCut_rest {n : Int} {b rest : List UInt8} {t : List ByteArray} (h : pCut n b = .ok t rest) : rest.length ≤ b.length := by
 unfold pCut at h
 split at h
 ·simp at h
 ·split at h
  ·simp at h
  ·split at h
   ·simp at h
   ·have := pTexts_rest h
    simp only [List.length_drop] at this
    omega
def UwR (p : List ByteArray × Nat) : Option (List V × List Obj) := some ([.arr 0 p.1.length,E p.2],[.arr 1 (p.1.map D.str) 0])
theorem uwR_some (p : List ByteArray × Nat) : UwR p ≠ none := by simp [UwR]
theorem unwords_runs (b : List UInt8) (n : Nat) (hn : n ≤ 256) (hb : b.length < 1000000) : Is (UwR (pWords n b)) (R 228 [B b,.d (.int .i64 n)] []) := by
 have hni : isI64 (n : Int) := by unfold isI64; omega
 cases b with
 | nil =>
  refine run_any (rs:=[.tmp 4,.tmp 5]) (ts:=[180,25]) Tryz.func228 rfl rfl rfl (by kernel_rfl) (by kernel_rfl) (.inl sp_228) (by simp [Tryz.f228]) (not_is (uwR_some _)) ?_
  simp -dsimp -implicitDefEqProofs (disch:=first|omega|assumption) [startSlots,nI,wI]
  simp [Is,UwR,pWords,E]
 | cons c r =>
 simp only [List.length_cons] at hb
 have hl0 : ¬ ((r.length : Int) + 1 = 0) := by omega
 unfold pWords
 simp only
 by_cases c0 : c.toNat = 0
 ·rw [if_pos c0]
  have h := cut_runs r n hni (by omega)
  unfold Is at h
  cases hp : pCut (n : Int) r with
  | err e =>
   rw [hp,CutR] at h
   have he := pCut_err hp
   have he' : ¬ (e : Int) = 0 := by omega
   refine run_any (rs:=[.tmp 4,.tmp 5]) (ts:=[180,25]) Tryz.func228 rfl rfl rfl (by kernel_rfl) (by kernel_rfl) (.inl sp_228) (by simp [Tryz.f228]) (not_is (uwR_some _)) ?_
   simp -dsimp -implicitDefEqProofs (disch:=first|omega|assumption) [startSlots,nI,wI,hl0,c0,h,he,he']
   simp [Is,UwR,E]
  | ok l rest =>
   rw [hp,CutR] at h
   by_cases hr : rest = []
   ·subst hr
    refine run_any (rs:=[.tmp 4,.tmp 5]) (ts:=[180,25]) Tryz.func228 rfl rfl rfl (by kernel_rfl) (by kernel_rfl) (.inl sp_228) (by simp [Tryz.f228]) (not_is (uwR_some _)) ?_
    simp -dsimp -implicitDefEqProofs (disch:=first|omega|assumption) [startSlots,nI,wI,hl0,c0,h]
    simp [Is,UwR,E]
   ·have hr' : 0 < rest.length := List.length_pos_iff.2 hr
    refine run_any (rs:=[.tmp 4,.tmp 5]) (ts:=[180,25]) Tryz.func228 rfl rfl rfl (by kernel_rfl) (by kernel_rfl) (.inl sp_228) (by simp [Tryz.f228]) (not_is (uwR_some _)) ?_
    simp -dsimp -implicitDefEqProofs (disch:=first|omega|assumption) [startSlots,nI,wI,hl0,c0,h,hr']
    simp [Is,UwR,E,hr]
 rw [if_neg c0]
 have c0' : ¬ (c.toNat : Int) = 0 := by omega
 have hg := get_runs r (by omega)
 have hgu := get_used r
 have hgl := get_lt r
 obtain ⟨g1,hg1⟩ : ∃ g,g = (get r).1 := ⟨_,rfl⟩
 obtain ⟨g2,hg2⟩ : ∃ g,g = (get r).2.1 := ⟨_,rfl⟩
 obtain ⟨g3,hg3⟩ : ∃ g,g = (get r).2.2 := ⟨_,rfl⟩
 rw [← hg1,← hg2,← hg3] at hg
 rw [← hg2] at hgu
 rw [← hg1] at hgl
 rw [← hg1,← hg2,← hg3]
 by_cases e0 : g3 ≠ 0
 ·rw [if_pos e0]
  have e0' : ¬ (g3 : Int) = 0 := by omega
  refine run_any (rs:=[.tmp 4,.tmp 5]) (ts:=[180,25]) Tryz.func228 rfl rfl rfl (by kernel_rfl) (by kernel_rfl) (.inl sp_228) (by simp [Tryz.f228]) (not_is (uwR_some _)) ?_
  simp -dsimp -implicitDefEqProofs (disch:=first|omega|assumption) [startSlots,nI,wI,hl0,c0,c0',hg,e0,e0']
  simp [Is,UwR,E]
 rw [if_neg e0]
 have e0' : g3 = 0 := by omega
 subst e0'
 have hw : IntKind.u64.wrap (n : Int) = n := wrap_u64 (by omega) (by omega)
 by_cases e1 : 1 < c.toNat
 ·rw [if_pos (.inl e1)]
  have e1' : (1 : Int) < c.toNat := by omega
  refine run_any (rs:=[.tmp 4,.tmp 5]) (ts:=[180,25]) Tryz.func228 rfl rfl rfl (by kernel_rfl) (by kernel_rfl) (.inl sp_228) (by simp [Tryz.f228]) (not_is (uwR_some _)) ?_
  simp -dsimp -implicitDefEqProofs (disch:=first|omega|assumption) [startSlots,nI,wI,hl0,c0,c0',hg,e1,e1',hw]
  simp [Is,UwR,E]
 have e1' : ¬ (1 : Int) < c.toNat := by omega
 by_cases e2 : n < g1
 ·rw [if_pos (.inr e2)]
  have e2' : (n : Int) < g1 := by omega
  refine run_any (rs:=[.tmp 4,.tmp 5]) (ts:=[180,25]) Tryz.func228 rfl rfl rfl (by kernel_rfl) (by kernel_rfl) (.inl sp_228) (by simp [Tryz.f228]) (not_is (uwR_some _)) ?_
  simp -dsimp -implicitDefEqProofs (disch:=first|omega|assumption) [startSlots,nI,wI,hl0,c0,c0',hg,e1,e1',hw,e2,e2']
  simp [Is,UwR,E]
 rw [if_neg (by omega)]
 have e2' : ¬ (n : Int) < g1 := by omega
 have hwi : IntKind.i64.wrap (g1 : Int) = g1 := wI (by omega) (by omega)
 obtain ⟨r1,hr1⟩ : ∃ r1,r1 = r.drop g2 := ⟨_,rfl⟩
 have hr1' : List.drop g2 (bytes r) = bytes r1 := by rw [hr1,bytes,bytes,List.map_drop]
 have x1 : ((1 : Int) + g2).toNat = g2 + 1 := by omega
 have hr1l : r1.length < 1000000 := by rw [hr1,List.length_drop]; omega
 rw [← hr1]
 have h := cut_runs r1 g1 (by unfold isI64; omega) hr1l
 unfold Is at h
 clear hg1 hg2 hg3 hr1
 cases hp : pCut (g1 : Int) r1 with
 | err e =>
  rw [hp,CutR] at h
  have he := pCut_err hp
  have he' : ¬ (e : Int) = 0 := by omega
  refine run_any (rs:=[.tmp 4,.tmp 5]) (ts:=[180,25]) Tryz.func228 rfl rfl rfl (by kernel_rfl) (by kernel_rfl) (.inl sp_228) (by simp [Tryz.f228]) (not_is (uwR_some _)) ?_
  simp -dsimp -implicitDefEqProofs (disch:=first|omega|assumption) [startSlots,nI,wI,hl0,c0,c0',hg,e1,e1',hw,e2,e2',hwi,x1,hr1',h,he,he',hgu]
  simp [Is,UwR,E]
 | ok u rest =>
  rw [hp,CutR] at h
  simp only
  have hrest := pCut_rest hp
  have hrd := read_runs rest n (by omega) hni
  have hrl := readI_len rest n
  obtain ⟨q,hq⟩ : ∃ q,q = (readI rest n).2 := ⟨_,rfl⟩
  obtain ⟨pl,hpl⟩ : ∃ pl,pl = (readI rest n).1 := ⟨_,rfl⟩
  rw [← hq,← hpl] at hrd
  rw [← hpl] at hrl
  rw [← hq,← hpl]
  by_cases e3 : q ≠ 0
  ·rw [if_pos e3]
   have e3' : ¬ (q : Int) = 0 := by omega
   refine run_any (rs:=[.tmp 4,.tmp 5]) (ts:=[180,25]) Tryz.func228 rfl rfl rfl (by kernel_rfl) (by kernel_rfl) (.inl sp_228) (by simp [Tryz.f228]) (not_is (uwR_some _)) ?_
   simp -dsimp -implicitDefEqProofs (disch:=first|omega|assumption) [startSlots,nI,wI,hl0,c0,c0',hg,e1,e1',hw,e2,e2',hwi,x1,hr1',h,hgu,hrd,e3,e3']
   simp [Is,UwR,E]
  rw [if_neg e3]
  have e3' : q = 0 := by omega
  subst e3'
  refine run_any (rs:=[.tmp 4,.tmp 5]) (ts:=[180,25]) Tryz.func228 rfl rfl rfl (by kernel_rfl) (by kernel_rfl) (.inl sp_228) (by simp [Tryz.f228]) (not_is (uwR_some _)) ?_
  simp -dsimp -implicitDefEqProofs (disch:=first|omega|assumption) [startSlots,nI,wI,hl0,c0,c0',hg,e1,e1',hw,e2,e2',hwi,x1,hr1',h,hgu,hrd]
  generalize hT0 : Is _ = T0
  have fin : ∀ r,r = UwR (if ∀ k ∈ pl,0 ≤ k ∧ k < u.length then (pl.map (pick u),0) else ([],40)) → T0 r := fun r hr => by rw [← hT0]; exact hr
  generalize hz : loopT _ _ _ _ _ _ = z
  revert z
  refine loop_any (σ:=Nat) (fun i => [(12,.arr 0 u.length),(15,.arr 1 i),(85,.arr 2 pl.length),(86,.d (.int .i64 pl.length)),(87,.d (.int .i64 i))]) (fun i => [.arr 1 (u.map D.str) 0,.arr 1 (preD (fun k => .str (pick u k)) pl i) 0,.arr 1 (cs pl) 0]) (fun i => i ≤ pl.length ∧ ∀ j,j < i → 0 ≤ at' pl j ∧ at' pl j < u.length) (fun i => pl.length - i) 0 ?_ ?_ ?_
  ·exact ⟨Nat.zero_le _,fun j hj => by omega⟩
  ·simp -dsimp -implicitDefEqProofs (disch:=first|omega|assumption) [preD_zero]
  intro T' f hT' i ⟨hi,hok⟩ ih
  by_cases h1 : i < pl.length
  ·have gi := get_at h1
   have hsu := preD_succ (g := fun k => D.str (pick u k)) h1
   have hln := preD_length (g := fun k => D.str (pick u k)) hi
   rw [gi] at hsu
   obtain ⟨k,hk⟩ : ∃ k,k = at' pl i := ⟨_,rfl⟩
   rw [← hk] at gi hsu
   have bad : ¬ (0 ≤ k ∧ k < u.length) → ¬ ∀ k ∈ pl,0 ≤ k ∧ k < (u.length : Int) := fun a b => a (b k (by rw [hk,← get_at h1]; exact List.getElem_mem _))
   by_cases k1 : k < 0
   ·subst hT'
    simp -dsimp -implicitDefEqProofs (disch:=first|omega|assumption) [nI,wI,h1,gi,k1]
    exact fin _ (by rw [if_neg (bad (by omega))]; simp [UwR,E])
   by_cases k2 : (u.length : Int) ≤ k
   ·subst hT'
    simp -dsimp -implicitDefEqProofs (disch:=first|omega|assumption) [nI,wI,h1,gi,k1,k2]
    exact fin _ (by rw [if_neg (bad (by omega))]; simp [UwR,E])
   obtain ⟨m,hm⟩ : ∃ m : Nat,k = m := ⟨k.toNat,by omega⟩
   have hmu : m < u.length := by omega
   have hpk : pick u k = u[m] := by rw [hm]; simp [pick,hmu]
   have hstep : ∀ j,j < i + 1 → 0 ≤ at' pl j ∧ at' pl j < u.length := fun j hj => by
    by_cases e : j = i
    ·subst e; rw [← hk]; omega
    ·exact hok j (by omega)
   rw [hpk] at hsu
   rw [hm] at gi k1 k2
   simp -dsimp -implicitDefEqProofs (disch:=first|omega|assumption) [nI,wI,h1,gi,k1,k2,hmu,hln]
   refine ih (i + 1) _ _ ⟨h1,hstep⟩ (by omega) ?_
   rw [hsu]
   simp -dsimp -implicitDefEqProofs (disch:=first|omega|assumption) [hln]
  ·obtain rfl : i = pl.length := by omega
   have hall : ∀ k ∈ pl,0 ≤ k ∧ k < (u.length : Int) := by
    intro k hk
    obtain ⟨j,hj,rfl⟩ := List.mem_iff_getElem.1 hk
    rw [get_at hj]
    exact hok j hj
   have hpe := preD_end (g := fun k => D.str (pick u k)) (Nat.le_refl pl.length)
   subst hT'
   rw [hpe]
   simp -dsimp -implicitDefEqProofs (disch:=first|omega|assumption) [nI,wI]
   refine fin _ ?_
   rw [if_pos hall]
   simp [UwR,E]
end Go.Am.Ab
namespace Go.Am.Ab
open Go.Proofs
set_option maxHeartbeats 4000000
set_option maxRecDepth 4000
def valuesC (k n : Nat) (b : List UInt8) : List Val × Nat :=
 if k = 1 then ((readI b n).1.map .whole,(readI b n).2)
 else if k = 2 then ((unpackC b n).1.map fun (x : Nat) => .truth (decide ((x : Int) = 1)),(unpackC b n).2)
 else ((pWords n b).1.map .text,(pWords n b).2)
def VsR (p : List Val × Nat) : Option (List V × List Obj) := some ([.arr 0 p.1.length,E p.2],[.arr 1 (vs p.1) 0])
theorem vsR_some (p : List Val × Nat) : VsR p ≠ none := by simp [VsR]
theorem pWords_len (n : Nat) (b : List UInt8) : (pWords n b).1.length ≤ 256 := by
 have hC : ∀ (n : Int) (b rest : List UInt8) (l : List ByteArray),pCut n b = .ok l rest → l.length ≤ 256 := by
  intro n b rest l h
  have key : ∀ (sz : List Int) (b rest : List UInt8) (l : List ByteArray),pTexts sz b = .ok l rest → l.length = sz.length := by
   intro sz
   induction sz with
   | nil => intro b rest l h; simp [pTexts] at h; simp [← h.1]
   | cons k r ih =>
    intro b rest l h
    unfold pTexts at h
    split at h
    ·simp at h
    ·split at h
     ·simp at h
     ·cases hp : pTexts r (b.drop k.toNat) with
      | err e' => rw [hp] at h; simp at h
      | ok l2 r2 =>
       rw [hp] at h
       simp at h
       rw [← h.1]; simp [ih _ _ _ hp]
  unfold pCut at h
  split at h
  ·simp at h
  ·split at h
   ·simp at h
   ·split at h
    ·simp at h
    ·rw [key _ _ _ _ h]; exact readI_len _ _
 unfold pWords
 split
 ·simp
 ·split
  ·split
   ·simp
   ·rename_i hp
    have := hC _ _ _ _ hp
    split <;> exact this
  ·split
   ·simp
   ·split
    ·simp
    ·split
     ·simp
     ·split
      ·simp
      ·split
       ·simp only [List.length_map]; exact readI_len _ _
       ·simp
theorem values1_runs (b : List UInt8) (n : Nat) (hn : n ≤ 256) (hb : b.length < 1000000) : Is (VsR (valuesC 1 n b)) (R 191 [.d (.int .u8 1),B b,.d (.int .i64 n)] []) := by
 have h := read_runs b n hb (by unfold isI64; omega)
 have hl := readI_len b n
 rw [show valuesC 1 n b = ((readI b n).1.map .whole,(readI b n).2) from rfl]
 obtain ⟨l,hle⟩ : ∃ l,l = (readI b n).1 := ⟨_,rfl⟩
 obtain ⟨e,hee⟩ : ∃ e,e = (readI b n).2 := ⟨_,rfl⟩
 rw [← hle,← hee] at h
 rw [← hle] at hl
 rw [← hle,← hee]
 clear hle hee
 refine run_any (rs:=[.tmp 6,.tmp 7]) (ts:=[29,25]) Tryz.func191 rfl rfl rfl (by kernel_rfl) (by kernel_rfl) (.inl sp_191) (by simp [Tryz.f191]) (not_is (vsR_some _)) ?_
 simp -dsimp -implicitDefEqProofs (disch:=first|omega|assumption) [startSlots,nI,wI,h]
 generalize hT0 : Is _ = T0
 have fin : ∀ r,r = VsR (l.map .whole,e) → T0 r := fun r hr => by rw [← hT0]; exact hr
 generalize hz : loopT _ _ _ _ _ _ = z
 revert z
 refine loop_any (σ:=Nat) (fun i => [(8,.arr 0 i),(10,E e),(30,.arr 1 l.length),(31,.d (.int .i64 l.length)),(32,.d (.int .i64 i))]) (fun i => [.arr 1 (preD (fun x => .iface 2 (.int .i64 x)) l i) 0,.arr 1 (cs l) 0]) (fun i => i ≤ l.length) (fun i => l.length - i) 0 ?_ ?_ ?_
 ·exact Nat.zero_le _
 ·simp -dsimp -implicitDefEqProofs (disch:=first|omega|assumption) [preD_zero,E]
 intro T' f hT' i hi ih
 by_cases h1 : i < l.length
 ·have hsu := preD_succ (g := fun x => .iface 2 (.int .i64 x)) h1
  have hln := preD_length (g := fun x => .iface 2 (.int .i64 x)) hi
  simp -dsimp -implicitDefEqProofs (disch:=first|omega|assumption) [nI,wI,h1,hln]
  refine ih (i + 1) _ _ h1 (by omega) ?_
  rw [hsu]
  simp -dsimp -implicitDefEqProofs (disch:=first|omega|assumption) [hln,E]
 ·obtain rfl : i = l.length := by omega
  have hpe := preD_end (g := fun x => .iface 2 (.int .i64 x)) (Nat.le_refl l.length)
  subst hT'
  rw [hpe]
  simp -dsimp -implicitDefEqProofs (disch:=first|omega|assumption) [nI,wI]
  refine fin _ ?_
  simp [VsR,E,Val.d]
theorem values2_runs (b : List UInt8) (n : Nat) (hn : n ≤ 256) (hb : b.length < 1000000) : Is (VsR (valuesC 2 n b)) (R 191 [.d (.int .u8 2),B b,.d (.int .i64 n)] []) := by
 have h := unpack1_runs b n hn hb
 have hl : (unpackC b n).1.length ≤ 256 := by
  unfold unpackC
  split
  ·simp
  ·split <;> simp [ups_length]; omega
 rw [show valuesC 2 n b = ((unpackC b n).1.map fun (x : Nat) => .truth (decide ((x : Int) = 1)),(unpackC b n).2) from rfl]
 obtain ⟨l,hle⟩ : ∃ l,l = (unpackC b n).1 := ⟨_,rfl⟩
 obtain ⟨e,hee⟩ : ∃ e,e = (unpackC b n).2 := ⟨_,rfl⟩
 rw [← hle,← hee] at h
 rw [← hle] at hl
 rw [← hle,← hee]
 clear hle hee
 refine run_any (rs:=[.tmp 6,.tmp 7]) (ts:=[29,25]) Tryz.func191 rfl rfl rfl (by kernel_rfl) (by kernel_rfl) (.inl sp_191) (by simp [Tryz.f191]) (not_is (vsR_some _)) ?_
 simp -dsimp -implicitDefEqProofs (disch:=first|omega|assumption) [startSlots,nI,wI,h]
 generalize hT0 : Is _ = T0
 have fin : ∀ r,r = VsR (l.map (fun (x : Nat) => .truth (decide ((x : Int) = 1))),e) → T0 r := fun r hr => by rw [← hT0]; exact hr
 generalize hz : loopT _ _ _ _ _ _ = z
 revert z
 refine loop_any (σ:=Nat) (fun i => [(8,.arr 0 i),(14,E e),(52,.arr 1 l.length),(53,.d (.int .i64 l.length)),(54,.d (.int .i64 i))]) (fun i => [.arr 1 (preD (fun (x : Nat) => .iface 4 (.bool (decide ((x : Int) = 1)))) l i) 0,.arr 1 (uc l) 0]) (fun i => i ≤ l.length) (fun i => l.length - i) 0 ?_ ?_ ?_
 ·exact Nat.zero_le _
 ·simp -dsimp -implicitDefEqProofs (disch:=first|omega|assumption) [preD_zero,E]
 intro T' f hT' i hi ih
 by_cases h1 : i < l.length
 ·have hsu := preD_succ (g := fun (x : Nat) => .iface 4 (.bool (decide ((x : Int) = 1)))) h1
  have hln := preD_length (g := fun (x : Nat) => .iface 4 (.bool (decide ((x : Int) = 1)))) hi
  simp -dsimp -implicitDefEqProofs (disch:=first|omega|assumption) [nI,wI,h1,hln]
  refine ih (i + 1) _ _ h1 (by omega) ?_
  rw [hsu]
  simp -dsimp -implicitDefEqProofs (disch:=first|omega|assumption) [hln,E]
 ·obtain rfl : i = l.length := by omega
  have hpe := preD_end (g := fun (x : Nat) => .iface 4 (.bool (decide ((x : Int) = 1)))) (Nat.le_refl l.length)
  subst hT'
  rw [hpe]
  simp -dsimp -implicitDefEqProofs (disch:=first|omega|assumption) [nI,wI]
  refine fin _ ?_
  simp [VsR,E,Val.d]
theorem values3_runs (b : List UInt8) (n : Nat) (hn : n ≤ 256) (hb : b.length < 1000000) : Is (VsR (valuesC 3 n b)) (R 191 [.d (.int .u8 3),B b,.d (.int .i64 n)] []) := by
 have h := unwords_runs b n hn hb
 have hl := pWords_len n b
 rw [show valuesC 3 n b = ((pWords n b).1.map .text,(pWords n b).2) from rfl]
 obtain ⟨l,hle⟩ : ∃ l,l = (pWords n b).1 := ⟨_,rfl⟩
 obtain ⟨e,hee⟩ : ∃ e,e = (pWords n b).2 := ⟨_,rfl⟩
 unfold Is UwR at h
 rw [← hle,← hee] at h
 rw [← hle] at hl
 rw [← hle,← hee]
 clear hle hee
 refine run_any (rs:=[.tmp 6,.tmp 7]) (ts:=[29,25]) Tryz.func191 rfl rfl rfl (by kernel_rfl) (by kernel_rfl) (.inl sp_191) (by simp [Tryz.f191]) (not_is (vsR_some _)) ?_
 simp -dsimp -implicitDefEqProofs (disch:=first|omega|assumption) [startSlots,nI,wI,h]
 generalize hT0 : Is _ = T0
 have fin : ∀ r,r = VsR (l.map .text,e) → T0 r := fun r hr => by rw [← hT0]; exact hr
 generalize hz : loopT _ _ _ _ _ _ = z
 revert z
 refine loop_any (σ:=Nat) (fun i => [(8,.arr 0 i),(18,E e),(73,.arr 1 l.length),(74,.d (.int .i64 l.length)),(75,.d (.int .i64 i))]) (fun i => [.arr 1 (preD (fun x => .iface 9 (.str x)) l i) 0,.arr 1 (ss l) 0]) (fun i => i ≤ l.length) (fun i => l.length - i) 0 ?_ ?_ ?_
 ·exact Nat.zero_le _
 ·simp -dsimp -implicitDefEqProofs (disch:=first|omega|assumption) [preD_zero,E]
 intro T' f hT' i hi ih
 by_cases h1 : i < l.length
 ·have hsu := preD_succ (g := fun x => .iface 9 (.str x)) h1
  have hln := preD_length (g := fun x => .iface 9 (.str x)) hi
  simp -dsimp -implicitDefEqProofs (disch:=first|omega|assumption) [nI,wI,h1,hln]
  refine ih (i + 1) _ _ h1 (by omega) ?_
  rw [hsu]
  simp -dsimp -implicitDefEqProofs (disch:=first|omega|assumption) [hln,E]
 ·obtain rfl : i = l.length := by omega
  have hpe := preD_end (g := fun x => .iface 9 (.str x)) (Nat.le_refl l.length)
  subst hT'
  rw [hpe]
  simp -dsimp -implicitDefEqProofs (disch:=first|omega|assumption) [nI,wI]
  refine fin _ ?_
  simp [VsR,E,Val.d]
end Go.Am.Ab
