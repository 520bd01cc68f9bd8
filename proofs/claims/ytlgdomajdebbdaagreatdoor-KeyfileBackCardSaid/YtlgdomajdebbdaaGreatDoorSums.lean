/- The sum of bytes. -/
import Derived.Test.YtlgdomajdebbdaaGreatDoorMachD
import Derived.Test.YtlgdomajdebbdaaGreatDoorCellsA
import Derived.Test.YtlgdomajdebbdaaGreatDoorReadA
import Derived.Test.YtlgdomajdebbdaaGreatDoorColC
set_option linter.all false
namespace Go.Am.Ab
set_option maxHeartbeats 4000000
def poly : BitVec 32 := 0xedb88320#32
def bitS (c : BitVec 32) : BitVec 32 := (c >>> 1) ^^^ (if c.getLsbD 0 then poly else 0#32)
theorem bitS_xor (a b : BitVec 32) : bitS (a ^^^ b) = bitS a ^^^ bitS b := by
 unfold bitS
 rw [BitVec.ushiftRight_xor_distrib,BitVec.getLsbD_xor]
 cases a.getLsbD 0 <;> cases b.getLsbD 0
 all_goals simp only [Bool.xor_false,Bool.false_xor,Bool.xor_true,Bool.not_true,Bool.not_false,if_true,if_false,Bool.false_eq_true,BitVec.xor_zero]
 ·ac_rfl
 ·ac_rfl
 ·have : poly ^^^ poly = 0#32 := BitVec.xor_self
  calc a >>> 1 ^^^ b >>> 1 = a >>> 1 ^^^ b >>> 1 ^^^ (poly ^^^ poly) := by rw [this,BitVec.xor_zero]
   _ = _ := by ac_rfl
theorem bitS_even {c : BitVec 32} (h : c.getLsbD 0 = false) : bitS c = c >>> 1 := by
 unfold bitS; rw [h]; simp
theorem bitS_zero {c : BitVec 32} (h : bitS c = 0#32) : c = 0#32 := by
 unfold bitS at h
 cases h0 : c.getLsbD 0 with
 | false =>
  rw [h0] at h
  simp only [Bool.false_eq_true,if_false,BitVec.xor_zero] at h
  apply BitVec.eq_of_getLsbD_eq
  intro i hi
  cases i with
  | zero => rw [h0]; simp
  | succ i =>
   have := congrArg (fun x => x.getLsbD i) h
   simp only [BitVec.getLsbD_ushiftRight] at this
   rw [Nat.add_comm,this]; simp
 | true =>
  rw [h0] at h
  simp only [if_true] at h
  have := congrArg (fun x => x.getLsbD 31) h
  simp only [BitVec.getLsbD_xor,BitVec.getLsbD_ushiftRight] at this
  rw [BitVec.getLsbD_of_ge c (1 + 31) (by omega)] at this
  exact absurd this (by decide)
theorem bitS_inj {a b : BitVec 32} (h : bitS a = bitS b) : a = b := by
 have h1 : bitS (a ^^^ b) = 0#32 := by rw [bitS_xor,h,BitVec.xor_self]
 exact BitVec.xor_eq_zero_iff.1 (bitS_zero h1)
def bits8 (c : BitVec 32) : Nat → BitVec 32
 | 0 => c
 | n + 1 => bitS (bits8 c n)
theorem bits8_inj {a b : BitVec 32} : ∀ {n : Nat},bits8 a n = bits8 b n → a = b
 | 0,h => h
 | n + 1,h => bits8_inj (bitS_inj h)
theorem bits8_xor (a b : BitVec 32) : ∀ n,bits8 (a ^^^ b) n = bits8 a n ^^^ bits8 b n
 | 0 => rfl
 | n + 1 => by rw [bits8,bits8_xor a b n,bitS_xor]; rfl
theorem bits8_add (a : BitVec 32) (m : Nat) : ∀ n,bits8 a (m + n) = bits8 (bits8 a m) n
 | 0 => rfl
 | n + 1 => by rw [← Nat.add_assoc,bits8,bits8_add a m n]; rfl
def halfL : List Nat := [0x00000000,0x1db71064,0x3b6e20c8,0x26d930ac,0x76dc4190,0x6b6b51f4,0x4db26158,0x5005713c,0xedb88320,0xf00f9344,0xd6d6a3e8,0xcb61b38c,0x9b64c2b0,0x86d3d2d4,0xa00ae278,0xbdbdf21c]
def halfB (n : Nat) : BitVec 32 := BitVec.ofNat 32 (halfL.getD n 0)
def nib (c : BitVec 32) : BitVec 32 := c >>> 4 ^^^ halfB (c &&& 15#32).toNat
theorem low_lt (c : BitVec 32) : (c &&& 15#32).toNat < 16 := by
 rw [BitVec.toNat_and]
 exact Nat.lt_of_le_of_lt Nat.and_le_right (by decide)
theorem half_low (c : BitVec 32) : bits8 (c &&& 15#32) 4 = halfB (c &&& 15#32).toNat := by
 have h := low_lt c
 obtain ⟨n,hn⟩ : ∃ n,n = (c &&& 15#32).toNat := ⟨_,rfl⟩
 have e : c &&& 15#32 = BitVec.ofNat 32 n := by rw [hn]; simp
 rw [← hn] at h ⊢
 rw [e]
 have key : ∀ m : Fin 16,bits8 (BitVec.ofNat 32 m.val) 4 = halfB m.val := by decide
 exact key ⟨n,h⟩
theorem half_high (c : BitVec 32) : bits8 (c &&& 0xfffffff0#32) 4 = c >>> 4 := by
 have hb : ∀ i,i < 4 → (c &&& 0xfffffff0#32).getLsbD i = false := by
  intro i hi
  rw [BitVec.getLsbD_and]
  have : (0xfffffff0#32).getLsbD i = false := by
   have : i = 0 ∨ i = 1 ∨ i = 2 ∨ i = 3 := by omega
   rcases this with rfl | rfl | rfl | rfl <;> decide
  rw [this,Bool.and_false]
 have key : ∀ n,n ≤ 4 → bits8 (c &&& 0xfffffff0#32) n = (c &&& 0xfffffff0#32) >>> n := by
  intro n
  induction n with
  | zero => intro _; simp [bits8]
  | succ n ih =>
   intro hn
   rw [bits8,ih (by omega),bitS_even]
   ·rw [BitVec.shiftRight_add]
   ·rw [BitVec.getLsbD_ushiftRight]
    exact hb _ (by omega)
 rw [key 4 (Nat.le_refl _)]
 apply BitVec.eq_of_getLsbD_eq
 intro i hi
 rw [BitVec.getLsbD_ushiftRight,BitVec.getLsbD_ushiftRight,BitVec.getLsbD_and]
 by_cases h : 4 + i < 32
 ·have : (0xfffffff0#32).getLsbD (4 + i) = true := by
   have key : ∀ m : Fin 28,(0xfffffff0#32).getLsbD (4 + m.val) = true := by decide
   exact key ⟨i,by omega⟩
  rw [this,Bool.and_true]
 ·rw [BitVec.getLsbD_of_ge c _ (by omega),Bool.false_and]
theorem nib_eq (c : BitVec 32) : bits8 c 4 = nib c := by
 have h : c = (c &&& 0xfffffff0#32) ^^^ (c &&& 15#32) := by
  apply BitVec.eq_of_getLsbD_eq
  intro i hi
  rw [BitVec.getLsbD_xor,BitVec.getLsbD_and,BitVec.getLsbD_and]
  have key : ∀ m : Fin 32,(0xfffffff0#32).getLsbD m.val = !(15#32).getLsbD m.val := by decide
  rw [key ⟨i,hi⟩]
  cases c.getLsbD i <;> cases (15#32).getLsbD i <;> rfl
 conv => lhs; rw [h]
 rw [bits8_xor,half_high,half_low]
 rfl
def byteS (c : BitVec 32) (x : UInt8) : BitVec 32 := bits8 (c ^^^ BitVec.ofNat 32 x.toNat) 8
theorem byteS_nib (c : BitVec 32) (x : UInt8) : byteS c x = nib (nib (c ^^^ BitVec.ofNat 32 x.toNat)) := by
 unfold byteS
 rw [show (8 : Nat) = 4 + 4 from rfl,bits8_add,nib_eq,nib_eq]
theorem byteS_inj {a b : BitVec 32} {x : UInt8} (h : byteS a x = byteS b x) : a = b := by
 have := bits8_inj h
 have h2 := congrArg (· ^^^ BitVec.ofNat 32 x.toNat) this
 simpa [BitVec.xor_assoc] using h2
theorem byteS_inj2 {a : BitVec 32} {x y : UInt8} (h : byteS a x = byteS a y) : x = y := by
 have := bits8_inj h
 have h2 := congrArg (a ^^^ ·) this
 simp only [← BitVec.xor_assoc,BitVec.xor_self,BitVec.zero_xor] at h2
 have h3 := congrArg BitVec.toNat h2
 have hx := x.toNat_lt
 have hy := y.toNat_lt
 simp only [BitVec.toNat_ofNat] at h3
 rw [Nat.mod_eq_of_lt (by omega),Nat.mod_eq_of_lt (by omega)] at h3
 exact UInt8.toNat_inj.1 h3
def runC (c : BitVec 32) (b : List UInt8) : BitVec 32 := b.foldl byteS c
theorem runC_inj : ∀ {b : List UInt8} {x y : BitVec 32},runC x b = runC y b → x = y
 | [],_,_,h => h
 | _ :: r,_,_,h => byteS_inj (runC_inj (b := r) h)
def moreC (c : BitVec 32) (b : List UInt8) : BitVec 32 := ~~~ runC (~~~ c) b
def ones : BitVec 32 := 0xffffffff#32
theorem ones_xor (c : BitVec 32) : c ^^^ ones = ~~~ c := by
 apply BitVec.eq_of_getLsbD_eq
 intro i hi
 rw [BitVec.getLsbD_xor,BitVec.getLsbD_not]
 have key : ∀ m : Fin 32,ones.getLsbD m.val = true := by decide
 rw [key ⟨i,hi⟩]
 simp [hi]
theorem not_inj {a b : BitVec 32} (h : ~~~ a = ~~~ b) : a = b := by
 have := congrArg (~~~ ·) h
 simpa using this
def sumB (c : BitVec 32) : List UInt8 := [UInt8.ofNat c.toNat,UInt8.ofNat (c.toNat / 256),UInt8.ofNat (c.toNat / 65536),UInt8.ofNat (c.toNat / 16777216)]
theorem sumB_inj {a b : BitVec 32} (h : sumB a = sumB b) : a = b := by
 simp only [sumB,List.cons.injEq,and_true] at h
 obtain ⟨h1,h2,h3,h4⟩ := h
 have g1 := congrArg UInt8.toNat h1
 have g2 := congrArg UInt8.toNat h2
 have g3 := congrArg UInt8.toNat h3
 have g4 := congrArg UInt8.toNat h4
 simp only [UInt8.toNat_ofNat'] at g1 g2 g3 g4
 have ha := a.isLt
 have hb := b.isLt
 apply BitVec.eq_of_toNat_eq
 omega
def crcB (b : List UInt8) : List UInt8 := sumB (moreC 0#32 b)
def sealB (b : List UInt8) : List UInt8 := b ++ crcB b
theorem crcB_length (b : List UInt8) : (crcB b).length = 4 := rfl
theorem sealB_length (b : List UInt8) : (sealB b).length = b.length + 4 := by rw [sealB,List.length_append,crcB_length]
def openB (b : List UInt8) : Option (List UInt8) := if b.length < 4 then none else if sealB (b.take (b.length - 4)) = b then some (b.take (b.length - 4)) else none
theorem open_seal (t : List UInt8) : openB (sealB t) = some t := by
 unfold openB
 rw [sealB_length,if_neg (by omega),Nat.add_sub_cancel]
 have : (sealB t).take t.length = t := by rw [sealB,List.take_left]
 rw [this,if_pos rfl]
theorem open_some {b t : List UInt8} (h : openB b = some t) : sealB t = b := by
 unfold openB at h
 split at h
 ·cases h
 ·split at h
  ·rename_i h2
   simp only [Option.some.injEq] at h
   rw [← h]; exact h2
  ·cases h
theorem runC_turned {t : List UInt8} {i : Nat} {x : UInt8} (hi : i < t.length) (hx : x ≠ t[i]) (c : BitVec 32) : runC c (t.set i x) ≠ runC c t := by
 intro h
 have e1 : t = t.take i ++ t[i] :: t.drop (i + 1) := by
  rw [← List.drop_eq_getElem_cons hi,List.take_append_drop]
 have e2 : t.set i x = t.take i ++ x :: t.drop (i + 1) := by
  rw [List.set_eq_take_append_cons_drop,if_pos hi]
 rw [e2] at h
 conv at h => rhs; rw [e1]
 unfold runC at h
 rw [List.foldl_append,List.foldl_append,List.foldl_cons,List.foldl_cons] at h
 exact hx (byteS_inj2 (runC_inj (b := t.drop (i + 1)) h))
theorem open_turned (t : List UInt8) (i : Nat) (x : UInt8) (hi : i < (sealB t).length) (hx : x ≠ (sealB t)[i]) : openB ((sealB t).set i x) = none := by
 cases h : openB ((sealB t).set i x) with
 | none => rfl
 | some u =>
  exfalso
  have h1 := open_some h
  have hl : u.length = t.length := by
   have := congrArg List.length h1
   rw [List.length_set,sealB_length,sealB_length] at this
   omega
  have hu : u = ((sealB t).set i x).take t.length := by rw [← h1,sealB,← hl,List.take_left]
  have hc : crcB u = ((sealB t).set i x).drop t.length := by rw [← h1,sealB,← hl,List.drop_left]
  by_cases hlt : i < t.length
  ·have hti : (sealB t)[i] = t[i] := by simp only [sealB]; rw [List.getElem_append_left hlt]
   rw [hti] at hx
   have hs : (sealB t).set i x = t.set i x ++ crcB t := by rw [sealB,List.set_append_left _ _ hlt]
   rw [hs] at hu hc
   have hlen : (t.set i x).length = t.length := List.length_set
   rw [← hlen,List.take_left] at hu
   rw [← hlen,List.drop_left] at hc
   rw [hu] at hc
   exact runC_turned hlt hx _ (not_inj (sumB_inj hc))
  ·have hs : (sealB t).set i x = t ++ (crcB t).set (i - t.length) x := by rw [sealB,List.set_append_right _ _ (by omega)]
   rw [hs,List.take_left] at hu
   rw [hs,List.drop_left,hu] at hc
   have hi4 : i - t.length < (crcB t).length := by rw [sealB_length] at hi; rw [crcB_length]; omega
   have hti : (sealB t)[i] = (crcB t)[i - t.length] := by simp only [sealB]; rw [List.getElem_append_right (by omega)]
   have h5 : (crcB t)[i - t.length]? = ((crcB t).set (i - t.length) x)[i - t.length]? := congrArg (fun l => l[i - t.length]?) hc
   rw [List.getElem?_set_self hi4,List.getElem?_eq_getElem hi4,Option.some.injEq] at h5
   exact hx (by rw [hti,h5])
end Go.Am.Ab
namespace Go.Am.Ab
open Go.Proofs
set_option maxHeartbeats 4000000
set_option maxRecDepth 4000
abbrev U32 (c : BitVec 32) : V := .d (.int .u32 (c.toNat : Int))
theorem xor_byte (c : BitVec 32) (x : UInt8) : c.toNat ^^^ x.toNat = (c ^^^ BitVec.ofNat 32 x.toNat).toNat := by
 have := x.toNat_lt
 rw [BitVec.toNat_xor,BitVec.toNat_ofNat,Nat.mod_eq_of_lt (by omega)]
theorem half_at (m : Nat) (h : m < 16) : halfD[m]? = some (.int .u32 ((halfB m).toNat : Int)) := by
 have key : ∀ k : Fin 16,halfL.getD k.val 0 < 4294967296 ∧ halfD[k.val]? = some (.int .u32 ((halfL.getD k.val 0 : Nat) : Int)) := by
  intro k
  have : k.val = 0 ∨ k.val = 1 ∨ k.val = 2 ∨ k.val = 3 ∨ k.val = 4 ∨ k.val = 5 ∨ k.val = 6 ∨ k.val = 7 ∨ k.val = 8 ∨ k.val = 9 ∨ k.val = 10 ∨ k.val = 11 ∨ k.val = 12 ∨ k.val = 13 ∨ k.val = 14 ∨ k.val = 15 := by omega
  rcases this with e | e | e | e | e | e | e | e | e | e | e | e | e | e | e | e <;> rw [e] <;> exact ⟨by decide,rfl⟩
 obtain ⟨h1,h2⟩ := key ⟨m,h⟩
 rw [h2]
 unfold halfB
 rw [BitVec.toNat_ofNat,Nat.mod_eq_of_lt h1]
theorem nib_nat (d : BitVec 32) : ∃ m : Nat,m < 16 ∧ d.toNat &&& 15 = m ∧ halfD[m]? = some (.int .u32 ((halfB m).toNat : Int)) ∧ d.toNat / 16 ^^^ (halfB m).toNat = (nib d).toNat := by
 refine ⟨(d &&& 15#32).toNat,low_lt d,by rw [BitVec.toNat_and]; rfl,half_at _ (low_lt d), ?_⟩
 unfold nib
 rw [BitVec.toNat_xor,BitVec.toNat_ushiftRight,Nat.shiftRight_eq_div_pow]
theorem unx_u32 {c d : BitVec 32} (h : d = ~~~ c) : unD .xor (.d (.int .u32 (c.toNat : Int))) = some (.int .u32 (d.toNat : Int)) := by
 have h1 : BitVec.ofInt 32 (if IntKind.u32.signed then -1 else IntKind.u32.max) = ones := by decide
 have h2 : BitVec.ofInt 32 ((c.toNat : Nat) : Int) = c := by
  apply BitVec.eq_of_toNat_eq
  rw [BitVec.ofInt_natCast,BitVec.toNat_ofNat,Nat.mod_eq_of_lt c.isLt]
 show some (D.int .u32 (IntKind.u32.wrap (BitVec.ofInt 32 (if IntKind.u32.signed then -1 else IntKind.u32.max) ^^^ BitVec.ofInt 32 ((c.toNat : Nat) : Int)).toNat)) = _
 rw [h1,h2,BitVec.xor_comm,ones_xor,← h,wrap_mod_u32]
 have := d.isLt
 congr 2
 omega
theorem lt32' (c : BitVec 32) : (c.toNat : Int) < 4294967296 := by have := c.isLt; omega
theorem more_runs (c : BitVec 32) (b : List UInt8) (hb : b.length < 1000000000) : R 185 [U32 c,B b] [] = some ([U32 (moreC c b)],[]) := by
 have l1 := lt32' c
 obtain ⟨d0,hd0⟩ : ∃ d,d = ~~~ c := ⟨_,rfl⟩
 have n1 := unx_u32 hd0
 have md : moreC c b = ~~~ runC d0 b := by rw [moreC,hd0]
 rw [md]
 clear md hd0
 refine run_goal (rs:=[.tmp 4]) (ts:=[59]) Tryz.func185 rfl rfl rfl (by kernel_rfl) (by kernel_rfl) (.inl sp_185) (by simp [Tryz.f185]) ?_
 intro T hT
 simp -dsimp -implicitDefEqProofs (disch:=first|omega|assumption) [startSlots,nI,wI,n1,l1,-unD]
 generalize hz : loopT _ _ _ _ _ _ = z
 revert z
 refine loop_any (σ:=Nat × BitVec 32) (fun x => [(0,U32 x.2),(9,B b),(10,.d (.int .i64 b.length)),(11,.d (.int .i64 x.1))]) (fun x => []) (fun x => x.1 ≤ b.length ∧ x.2 = runC d0 (b.take x.1)) (fun x => b.length - x.1) (0,d0) ?_ ?_ ?_
 ·exact ⟨Nat.zero_le _,rfl⟩
 ·simp -dsimp -implicitDefEqProofs (disch:=first|omega|assumption) [B]
 intro T' f hT' ⟨i,d⟩ ⟨hi,hd⟩ ih
 simp only at hi hd ih
 have ld := lt32' d
 by_cases h1 : i < b.length
 ·obtain ⟨y,hy⟩ : ∃ y,y = b[i] := ⟨_,rfl⟩
  have gy := hy.symm
  have x1 := xor_byte d y
  have yl : (y.toNat : Int) < 4294967296 := by have := y.toNat_lt; omega
  obtain ⟨e,he⟩ : ∃ e,e = d ^^^ BitVec.ofNat 32 y.toNat := ⟨_,rfl⟩
  rw [← he] at x1
  obtain ⟨m,m1,m2,m3,m4⟩ := nib_nat e
  obtain ⟨n,n1,n2,n3,n4⟩ := nib_nat (nib e)
  have le := lt32' e
  have ln := lt32' (nib e)
  have lm := lt32' (halfB m)
  have lk := lt32' (halfB n)
  have t1 : ((e.toNat : Int) / 16).toNat = e.toNat / 16 := by omega
  have t2 : (((nib e).toNat : Int) / 16).toNat = (nib e).toNat / 16 := by omega
  have m1' : (m : Int) < 16 := by omega
  have n1' : (n : Int) < 16 := by omega
  simp -dsimp -implicitDefEqProofs (disch:=first|omega|assumption) [nI,wI,h1,gy,x1,yl,ld,m1,m1',m2,m3,m4,n1,n1',n2,n3,n4,le,ln,lm,lk,t1,t2]
  refine ih (i + 1,nib (nib e)) _ _ ⟨h1, ?_⟩ (by simp only; omega) ?_
  ·simp only
   have hstep : runC d0 (b.take (i + 1)) = byteS (runC d0 (b.take i)) b[i] := by unfold runC; rw [take_snoc h1,List.foldl_append]; rfl
   rw [hstep,← hd,byteS_nib,gy,he]
  ·simp -dsimp -implicitDefEqProofs (disch:=first|omega|assumption) [B]
 ·obtain rfl : i = b.length := by omega
  rw [List.take_length] at hd
  obtain ⟨d9,hd9⟩ : ∃ e,e = ~~~ d := ⟨_,rfl⟩
  have n2 := unx_u32 hd9
  have md : ~~~ runC d0 b = d9 := by rw [← hd,hd9]
  rw [md] at hT
  subst hT'
  simp -dsimp -implicitDefEqProofs (disch:=first|omega|assumption) [nI,wI,n2,ld,-unD]
  simpa -dsimp -implicitDefEqProofs (disch:=first|omega|assumption) [nI,wI,U32] using hT
end Go.Am.Ab
namespace Go.Am.Ab
open Go.Proofs
set_option maxHeartbeats 4000000
set_option maxRecDepth 4000
theorem cloneB_runs (b : List UInt8) (hn : b.length < 1000000000) : R 127 [B b] [] = some ([.arr 0 b.length],[.arr 1 (bytes b) 0]) := by
 cases b with
 | nil =>
  refine run_split (rs:=[.tmp 2]) (ts:=[24]) Tryz.func127 rfl rfl rfl (by kernel_rfl) (by kernel_rfl) sp_127 (by simp [Tryz.f127]) ?_
  intro T hT a ha
  rcases ha with rfl | rfl
  all_goals simp -dsimp -implicitDefEqProofs (disch:=first|omega|assumption) [startSlots,nI,wI]
  all_goals exact hT
 | cons x r =>
  simp only [List.length_cons] at hn
  refine run_goal (rs:=[.tmp 2]) (ts:=[24]) Tryz.func127 rfl rfl rfl (by kernel_rfl) (by kernel_rfl) (.inr (by intro rest h; simp at h)) (by simp [Tryz.f127]) ?_
  intro T hT
  simp -dsimp -implicitDefEqProofs (disch:=first|omega|assumption) [startSlots,nI,wI]
  simpa -dsimp -implicitDefEqProofs (disch:=first|omega|assumption) [nI,wI] using hT
theorem more0_runs (b : List UInt8) (hb : b.length < 1000000000) : R 185 [.d (.int .u32 0),B b] [] = some ([U32 (moreC 0#32 b)],[]) := more_runs 0#32 b hb
theorem of_runs (b : List UInt8) (hb : b.length < 1000000000) : R 126 [B b] [] = some ([U32 (moreC 0#32 b)],[]) := by
 have h := more0_runs b hb
 refine run_goal (rs:=[.tmp 2]) (ts:=[59]) Tryz.func126 rfl rfl rfl (by kernel_rfl) (by kernel_rfl) (.inl sp_126) (by simp [Tryz.f126]) ?_
 intro T hT
 simp -dsimp -implicitDefEqProofs (disch:=first|omega|assumption) [startSlots,nI,wI,h]
 simpa -dsimp -implicitDefEqProofs (disch:=first|omega|assumption) [nI,wI] using hT
theorem sum_cells (c : BitVec 32) : bytes (sumB c) = [.int .u8 ((c.toNat : Int) % 256),.int .u8 ((c.toNat : Int) / 256 % 256),.int .u8 ((c.toNat : Int) / 65536 % 256),.int .u8 ((c.toNat : Int) / 16777216 % 256)] := by
 simp [sumB]
theorem seal_runs (b : List UInt8) (hb : b.length < 1000000000) : R 66 [B b] [] = some ([.arr 0 (sealB b).length],[.arr 1 (bytes (sealB b)) 0]) := by
 have h := of_runs b hb
 have h2 := cloneB_runs b hb
 have h3 := sum_cells (moreC 0#32 b)
 have h4 : bytes (sealB b) = bytes b ++ bytes (sumB (moreC 0#32 b)) := by simp [sealB,crcB]
 rw [sealB_length,h4,h3]
 generalize moreC 0#32 b = c at *
 clear h3 h4
 refine run_goal (rs:=[.tmp 2]) (ts:=[24]) Tryz.func66 rfl rfl rfl (by kernel_rfl) (by kernel_rfl) (.inl sp_66) (by simp [Tryz.f66]) ?_
 intro T hT
 simp -dsimp -implicitDefEqProofs (disch:=first|omega|assumption) [startSlots,nI,wI,h,h2]
 simpa -dsimp -implicitDefEqProofs (disch:=first|omega|assumption) [nI,wI] using hT
def OpR : Option (List UInt8) → Option (List V × List Obj)
 | none => some ([.arr 0 0,.d (.bool false)],[.arr 1 [] 0])
 | some t => some ([.arr 0 t.length,.d (.bool true)],[.arr 1 (bytes t) t.length])
theorem copen_runs (b : List UInt8) (hb : b.length < 1000000) : R 69 [B b] [] = OpR (openB b) := by
 unfold openB
 by_cases h1 : b.length < 4
 ·have h1' : (b.length : Int) < 4 := by omega
  rw [if_pos h1]
  unfold OpR
  refine run_goal (rs:=[.tmp 2,.tmp 3]) (ts:=[24,4]) Tryz.func69 rfl rfl rfl (by kernel_rfl) (by kernel_rfl) (.inl sp_69) (by simp [Tryz.f69]) ?_
  intro T hT
  simp -dsimp -implicitDefEqProofs (disch:=first|omega|assumption) [startSlots,nI,wI,h1']
  simpa -dsimp -implicitDefEqProofs (disch:=first|omega|assumption) [nI,wI] using hT
 rw [if_neg h1]
 have h1' : ¬ (b.length : Int) < 4 := by omega
 have x1 : ((b.length : Int) - 4).toNat = b.length - 4 := by omega
 have x2 : (4 : Int) ≤ b.length := by omega
 obtain ⟨t,ht⟩ : ∃ t,t = b.take (b.length - 4) := ⟨_,rfl⟩
 have ht' : List.take (b.length - 4) (bytes b) = bytes t := by rw [ht,bytes,bytes,List.map_take]
 have htl : t.length < 1000000000 := by rw [ht,List.length_take]; omega
 have c1 := cloneB_runs t htl
 have c2 := seal_runs t htl
 have c3 := equal_runs (sealB t) b (by rw [sealB_length,ht,List.length_take]; omega)
 rw [← ht]
 clear ht
 by_cases h2 : sealB t = b
 ·rw [if_pos h2]
  rw [decide_eq_true h2] at c3
  unfold OpR
  refine run_goal (rs:=[.tmp 2,.tmp 3]) (ts:=[24,4]) Tryz.func69 rfl rfl rfl (by kernel_rfl) (by kernel_rfl) (.inl sp_69) (by simp [Tryz.f69]) ?_
  intro T hT
  simp -dsimp -implicitDefEqProofs (disch:=first|omega|assumption) [startSlots,nI,wI,h1',x1,x2,ht',c1,c2,c3]
  simpa -dsimp -implicitDefEqProofs (disch:=first|omega|assumption) [nI,wI] using hT
 ·rw [if_neg h2]
  rw [decide_eq_false h2] at c3
  unfold OpR
  refine run_goal (rs:=[.tmp 2,.tmp 3]) (ts:=[24,4]) Tryz.func69 rfl rfl rfl (by kernel_rfl) (by kernel_rfl) (.inl sp_69) (by simp [Tryz.f69]) ?_
  intro T hT
  simp -dsimp -implicitDefEqProofs (disch:=first|omega|assumption) [startSlots,nI,wI,h1',x1,x2,ht',c1,c2,c3]
  simpa -dsimp -implicitDefEqProofs (disch:=first|omega|assumption) [nI,wI] using hT
end Go.Am.Ab
