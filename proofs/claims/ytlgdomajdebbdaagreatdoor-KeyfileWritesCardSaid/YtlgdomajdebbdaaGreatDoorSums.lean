/- The sum of bytes. -/
import Derived.Test.YtlgdomajdebbdaaGreatDoorMachD
import Derived.Test.YtlgdomajdebbdaaGreatDoorCellsA
import Derived.Test.YtlgdomajdebbdaaGreatDoorReadA
import Derived.Test.YtlgdomajdebbdaaGreatDoorColC
set_option linter.all false
namespace Go.Am.Ab
set_option maxHeartbeats 4000000
def poly : BitVec 32 := 0xedb88320#32
def bitS (c : BitVec 32) : BitVec 32 := (c >>> 1) ^^^ (if c.getLsbD 0 then poly else 0#32)
theorem bitS_xor (a b : BitVec 32) : bitS (a ^^^ b) = bitS a ^^^ bitS b := by
 unfold bitS
 rw [BitVec.ushiftRight_xor_distrib,BitVec.getLsbD_xor]
 cases a.getLsbD 0 <;> cases b.getLsbD 0
 all_goals simp only [Bool.xor_false,Bool.false_xor,Bool.xor_true,Bool.not_true,Bool.not_false,if_true,if_false,Bool.false_eq_true,BitVec.xor_zero]
 ·ac_rfl
 ·ac_rfl
 ·have : poly ^^^ poly = 0#32 := BitVec.xor_self
  calc a >>> 1 ^^^ b >>> 1 = a >>> 1 ^^^ b >>> 1 ^^^ (poly ^^^ poly) := by rw [this,BitVec.xor_zero]
   _ = _ := by ac_rfl
theorem bitS_even {c : BitVec 32} (h : c.getLsbD 0 = false) : bitS c = c >>> 1 := by
 unfold bitS; rw [h]; simp
def bits8 (c : BitVec 32) : Nat → BitVec 32
 | 0 => c
 | n + 1 => bitS (bits8 c n)
theorem bits8_xor (a b : BitVec 32) : ∀ n,bits8 (a ^^^ b) n = bits8 a n ^^^ bits8 b n
 | 0 => rfl
 | n + 1 => by rw [bits8,bits8_xor a b n,bitS_xor]; rfl
theorem bits8_add (a : BitVec 32) (m : Nat) : ∀ n,bits8 a (m + n) = bits8 (bits8 a m) n
 | 0 => rfl
 | n + 1 => by rw [← Nat.add_assoc,bits8,bits8_add a m n]; rfl
def halfL : List Nat := [0x00000000,0x1db71064,0x3b6e20c8,0x26d930ac,0x76dc4190,0x6b6b51f4,0x4db26158,0x5005713c,0xedb88320,0xf00f9344,0xd6d6a3e8,0xcb61b38c,0x9b64c2b0,0x86d3d2d4,0xa00ae278,0xbdbdf21c]
def halfB (n : Nat) : BitVec 32 := BitVec.ofNat 32 (halfL.getD n 0)
def nib (c : BitVec 32) : BitVec 32 := c >>> 4 ^^^ halfB (c &&& 15#32).toNat
theorem low_lt (c : BitVec 32) : (c &&& 15#32).toNat < 16 := by
 rw [BitVec.toNat_and]
 exact Nat.lt_of_le_of_lt Nat.and_le_right (by decide)
theorem half_low (c : BitVec 32) : bits8 (c &&& 15#32) 4 = halfB (c &&& 15#32).toNat := by
 have h := low_lt c
 obtain ⟨n,hn⟩ : ∃ n,n = (c &&& 15#32).toNat := ⟨_,rfl⟩
 have e : c &&& 15#32 = BitVec.ofNat 32 n := by rw [hn]; simp
 rw [← hn] at h ⊢
 rw [e]
 have key : ∀ m : Fin 16,bits8 (BitVec.ofNat 32 m.val) 4 = halfB m.val := by decide
 exact key ⟨n,h⟩
theorem half_high (c : BitVec 32) : bits8 (c &&& 0xfffffff0#32) 4 = c >>> 4 := by
 have hb : ∀ i,i < 4 → (c &&& 0xfffffff0#32).getLsbD i = false := by
  intro i hi
  rw [BitVec.getLsbD_and]
  have : (0xfffffff0#32).getLsbD i = false := by
   have : i = 0 ∨ i = 1 ∨ i = 2 ∨ i = 3 := by omega
   rcases this with rfl | rfl | rfl | rfl <;> decide
  rw [this,Bool.and_false]
 have key : ∀ n,n ≤ 4 → bits8 (c &&& 0xfffffff0#32) n = (c &&& 0xfffffff0#32) >>> n := by
  intro n
  induction n with
  | zero => intro _; simp [bits8]
  | succ n ih =>
   intro hn
   rw [bits8,ih (by omega),bitS_even]
   ·rw [BitVec.shiftRight_add]
   ·rw [BitVec.getLsbD_ushiftRight]
    exact hb _ (by omega)
 rw [key 4 (Nat.le_refl _)]
 apply BitVec.eq_of_getLsbD_eq
 intro i hi
 rw [BitVec.getLsbD_ushiftRight,BitVec.getLsbD_ushiftRight,BitVec.getLsbD_and]
 by_cases h : 4 + i < 32
 ·have : (0xfffffff0#32).getLsbD (4 + i) = true := by
   have key : ∀ m : Fin 28,(0xfffffff0#32).getLsbD (4 + m.val) = true := by decide
   exact key ⟨i,by omega⟩
  rw [this,Bool.and_true]
 ·rw [BitVec.getLsbD_of_ge c _ (by omega),Bool.false_and]
theorem nib_eq (c : BitVec 32) : bits8 c 4 = nib c := by
 have h : c = (c &&& 0xfffffff0#32) ^^^ (c &&& 15#32) := by
  apply BitVec.eq_of_getLsbD_eq
  intro i hi
  rw [BitVec.getLsbD_xor,BitVec.getLsbD_and,BitVec.getLsbD_and]
  have key : ∀ m : Fin 32,(0xfffffff0#32).getLsbD m.val = !(15#32).getLsbD m.val := by decide
  rw [key ⟨i,hi⟩]
  cases c.getLsbD i <;> cases (15#32).getLsbD i <;> rfl
 conv => lhs; rw [h]
 rw [bits8_xor,half_high,half_low]
 rfl
def byteS (c : BitVec 32) (x : UInt8) : BitVec 32 := bits8 (c ^^^ BitVec.ofNat 32 x.toNat) 8
theorem byteS_nib (c : BitVec 32) (x : UInt8) : byteS c x = nib (nib (c ^^^ BitVec.ofNat 32 x.toNat)) := by
 unfold byteS
 rw [show (8 : Nat) = 4 + 4 from rfl,bits8_add,nib_eq,nib_eq]
def runC (c : BitVec 32) (b : List UInt8) : BitVec 32 := b.foldl byteS c
def moreC (c : BitVec 32) (b : List UInt8) : BitVec 32 := ~~~ runC (~~~ c) b
def ones : BitVec 32 := 0xffffffff#32
theorem ones_xor (c : BitVec 32) : c ^^^ ones = ~~~ c := by
 apply BitVec.eq_of_getLsbD_eq
 intro i hi
 rw [BitVec.getLsbD_xor,BitVec.getLsbD_not]
 have key : ∀ m : Fin 32,ones.getLsbD m.val = true := by decide
 rw [key ⟨i,hi⟩]
 simp [hi]
def sumB (c : BitVec 32) : List UInt8 := [UInt8.ofNat c.toNat,UInt8.ofNat (c.toNat / 256),UInt8.ofNat (c.toNat / 65536),UInt8.ofNat (c.toNat / 16777216)]
def crcB (b : List UInt8) : List UInt8 := sumB (moreC 0#32 b)
def sealB (b : List UInt8) : List UInt8 := b ++ crcB b
theorem crcB_length (b : List UInt8) : (crcB b).length = 4 := rfl
theorem sealB_length (b : List UInt8) : (sealB b).length = b.length + 4 := by rw [sealB,List.length_append,crcB_length]
def openB (b : List UInt8) : Option (List UInt8) := if b.length < 4 then none else if sealB (b.take (b.length - 4)) = b then some (b.take (b.length - 4)) else none
theorem open_seal (t : List UInt8) : openB (sealB t) = some t := by
 unfold openB
 rw [sealB_length,if_neg (by omega),Nat.add_sub_cancel]
 have : (sealB t).take t.length = t := by rw [sealB,List.take_left]
 rw [this,if_pos rfl]
end Go.Am.Ab
namespace Go.Am.Ab
open Go.Proofs
set_option maxHeartbeats 4000000
set_option maxRecDepth 4000
abbrev U32 (c : BitVec 32) : V := .d (.int .u32 (c.toNat : Int))
theorem not_nat (c : BitVec 32) : 4294967295 ^^^ c.toNat = (~~~ c).toNat := by
 rw [← ones_xor,BitVec.toNat_xor,Nat.xor_comm]; rfl
theorem xor_byte (c : BitVec 32) (x : UInt8) : c.toNat ^^^ x.toNat = (c ^^^ BitVec.ofNat 32 x.toNat).toNat := by
 have := x.toNat_lt
 rw [BitVec.toNat_xor,BitVec.toNat_ofNat,Nat.mod_eq_of_lt (by omega)]
theorem half_at (m : Nat) (h : m < 16) : halfD[m]? = some (.int .u32 ((halfB m).toNat : Int)) := by
 have key : ∀ k : Fin 16,halfL.getD k.val 0 < 4294967296 ∧ halfD[k.val]? = some (.int .u32 ((halfL.getD k.val 0 : Nat) : Int)) := by
  intro k
  have : k.val = 0 ∨ k.val = 1 ∨ k.val = 2 ∨ k.val = 3 ∨ k.val = 4 ∨ k.val = 5 ∨ k.val = 6 ∨ k.val = 7 ∨ k.val = 8 ∨ k.val = 9 ∨ k.val = 10 ∨ k.val = 11 ∨ k.val = 12 ∨ k.val = 13 ∨ k.val = 14 ∨ k.val = 15 := by omega
  rcases this with e | e | e | e | e | e | e | e | e | e | e | e | e | e | e | e <;> rw [e] <;> exact ⟨by decide,rfl⟩
 obtain ⟨h1,h2⟩ := key ⟨m,h⟩
 rw [h2]
 unfold halfB
 rw [BitVec.toNat_ofNat,Nat.mod_eq_of_lt h1]
theorem nib_nat (d : BitVec 32) : ∃ m : Nat,m < 16 ∧ d.toNat &&& 15 = m ∧ halfD[m]? = some (.int .u32 ((halfB m).toNat : Int)) ∧ d.toNat / 16 ^^^ (halfB m).toNat = (nib d).toNat := by
 refine ⟨(d &&& 15#32).toNat,low_lt d,by rw [BitVec.toNat_and]; rfl,half_at _ (low_lt d), ?_⟩
 unfold nib
 rw [BitVec.toNat_xor,BitVec.toNat_ushiftRight,Nat.shiftRight_eq_div_pow]
theorem unx_u32 {c d : BitVec 32} (h : d = ~~~ c) : unD .xor (.d (.int .u32 (c.toNat : Int))) = some (.int .u32 (d.toNat : Int)) := by
 have h1 : BitVec.ofInt 32 (if IntKind.u32.signed then -1 else IntKind.u32.max) = ones := by decide
 have h2 : BitVec.ofInt 32 ((c.toNat : Nat) : Int) = c := by
  apply BitVec.eq_of_toNat_eq
  rw [BitVec.ofInt_natCast,BitVec.toNat_ofNat,Nat.mod_eq_of_lt c.isLt]
 show some (D.int .u32 (IntKind.u32.wrap (BitVec.ofInt 32 (if IntKind.u32.signed then -1 else IntKind.u32.max) ^^^ BitVec.ofInt 32 ((c.toNat : Nat) : Int)).toNat)) = _
 rw [h1,h2,BitVec.xor_comm,ones_xor,← h,wrap_mod_u32]
 have := d.isLt
 congr 2
 omega
theorem lt32' (c : BitVec 32) : (c.toNat : Int) < 4294967296 := by have := c.isLt; omega
theorem more_runs (c : BitVec 32) (b : List UInt8) (hb : b.length < 1000000000) : R 185 [U32 c,B b] [] = some ([U32 (moreC c b)],[]) := by
 have l1 := lt32' c
 obtain ⟨d0,hd0⟩ : ∃ d,d = ~~~ c := ⟨_,rfl⟩
 have n1 := unx_u32 hd0
 have md : moreC c b = ~~~ runC d0 b := by rw [moreC,hd0]
 rw [md]
 clear md hd0
 refine run_goal (rs:=[.tmp 4]) (ts:=[59]) Tryz.func185 rfl rfl rfl (by kernel_rfl) (by kernel_rfl) (.inl sp_185) (by simp [Tryz.f185]) ?_
 intro T hT
 simp -dsimp -implicitDefEqProofs (disch:=first|omega|assumption) [startSlots,nI,wI,n1,l1,-unD]
 generalize hz : loopT _ _ _ _ _ _ = z
 revert z
 refine loop_any (σ:=Nat × BitVec 32) (fun x => [(0,U32 x.2),(9,B b),(10,.d (.int .i64 b.length)),(11,.d (.int .i64 x.1))]) (fun x => []) (fun x => x.1 ≤ b.length ∧ x.2 = runC d0 (b.take x.1)) (fun x => b.length - x.1) (0,d0) ?_ ?_ ?_
 ·exact ⟨Nat.zero_le _,rfl⟩
 ·simp -dsimp -implicitDefEqProofs (disch:=first|omega|assumption) [B]
 intro T' f hT' ⟨i,d⟩ ⟨hi,hd⟩ ih
 simp only at hi hd ih
 have ld := lt32' d
 by_cases h1 : i < b.length
 ·obtain ⟨y,hy⟩ : ∃ y,y = b[i] := ⟨_,rfl⟩
  have gy := hy.symm
  have x1 := xor_byte d y
  have yl : (y.toNat : Int) < 4294967296 := by have := y.toNat_lt; omega
  obtain ⟨e,he⟩ : ∃ e,e = d ^^^ BitVec.ofNat 32 y.toNat := ⟨_,rfl⟩
  rw [← he] at x1
  obtain ⟨m,m1,m2,m3,m4⟩ := nib_nat e
  obtain ⟨n,n1,n2,n3,n4⟩ := nib_nat (nib e)
  have le := lt32' e
  have ln := lt32' (nib e)
  have lm := lt32' (halfB m)
  have lk := lt32' (halfB n)
  have t1 : ((e.toNat : Int) / 16).toNat = e.toNat / 16 := by omega
  have t2 : (((nib e).toNat : Int) / 16).toNat = (nib e).toNat / 16 := by omega
  have m1' : (m : Int) < 16 := by omega
  have n1' : (n : Int) < 16 := by omega
  simp -dsimp -implicitDefEqProofs (disch:=first|omega|assumption) [nI,wI,h1,gy,x1,yl,ld,m1,m1',m2,m3,m4,n1,n1',n2,n3,n4,le,ln,lm,lk,t1,t2]
  refine ih (i + 1,nib (nib e)) _ _ ⟨h1, ?_⟩ (by simp only; omega) ?_
  ·simp only
   have hstep : runC d0 (b.take (i + 1)) = byteS (runC d0 (b.take i)) b[i] := by unfold runC; rw [take_snoc h1,List.foldl_append]; rfl
   rw [hstep,← hd,byteS_nib,gy,he]
  ·simp -dsimp -implicitDefEqProofs (disch:=first|omega|assumption) [B]
 ·obtain rfl : i = b.length := by omega
  rw [List.take_length] at hd
  obtain ⟨d9,hd9⟩ : ∃ e,e = ~~~ d := ⟨_,rfl⟩
  have n2 := unx_u32 hd9
  have md : ~~~ runC d0 b = d9 := by rw [← hd,hd9]
  rw [md] at hT
  subst hT'
  simp -dsimp -implicitDefEqProofs (disch:=first|omega|assumption) [nI,wI,n2,ld,-unD]
  simpa -dsimp -implicitDefEqProofs (disch:=first|omega|assumption) [nI,wI,U32] using hT
end Go.Am.Ab
namespace Go.Am.Ab
open Go.Proofs
set_option maxHeartbeats 4000000
set_option maxRecDepth 4000
theorem cloneB_runs (b : List UInt8) (hn : b.length < 1000000000) : R 127 [B b] [] = some ([.arr 0 b.length],[.arr 1 (bytes b) 0]) := by
 cases b with
 | nil =>
  refine run_split (rs:=[.tmp 2]) (ts:=[24]) Tryz.func127 rfl rfl rfl (by kernel_rfl) (by kernel_rfl) sp_127 (by simp [Tryz.f127]) ?_
  intro T hT a ha
  rcases ha with rfl | rfl
  all_goals simp -dsimp -implicitDefEqProofs (disch:=first|omega|assumption) [startSlots,nI,wI]
  all_goals exact hT
 | cons x r =>
  simp only [List.length_cons] at hn
  refine run_goal (rs:=[.tmp 2]) (ts:=[24]) Tryz.func127 rfl rfl rfl (by kernel_rfl) (by kernel_rfl) (.inr (by intro rest h; simp at h)) (by simp [Tryz.f127]) ?_
  intro T hT
  simp -dsimp -implicitDefEqProofs (disch:=first|omega|assumption) [startSlots,nI,wI]
  simpa -dsimp -implicitDefEqProofs (disch:=first|omega|assumption) [nI,wI] using hT
theorem more0_runs (b : List UInt8) (hb : b.length < 1000000000) : R 185 [.d (.int .u32 0),B b] [] = some ([U32 (moreC 0#32 b)],[]) := more_runs 0#32 b hb
theorem of_runs (b : List UInt8) (hb : b.length < 1000000000) : R 126 [B b] [] = some ([U32 (moreC 0#32 b)],[]) := by
 have h := more0_runs b hb
 refine run_goal (rs:=[.tmp 2]) (ts:=[59]) Tryz.func126 rfl rfl rfl (by kernel_rfl) (by kernel_rfl) (.inl sp_126) (by simp [Tryz.f126]) ?_
 intro T hT
 simp -dsimp -implicitDefEqProofs (disch:=first|omega|assumption) [startSlots,nI,wI,h]
 simpa -dsimp -implicitDefEqProofs (disch:=first|omega|assumption) [nI,wI] using hT
theorem sum_cells (c : BitVec 32) : bytes (sumB c) = [.int .u8 ((c.toNat : Int) % 256),.int .u8 ((c.toNat : Int) / 256 % 256),.int .u8 ((c.toNat : Int) / 65536 % 256),.int .u8 ((c.toNat : Int) / 16777216 % 256)] := by
 simp [sumB]
theorem seal_runs (b : List UInt8) (hb : b.length < 1000000000) : R 66 [B b] [] = some ([.arr 0 (sealB b).length],[.arr 1 (bytes (sealB b)) 0]) := by
 have h := of_runs b hb
 have h2 := cloneB_runs b hb
 have h3 := sum_cells (moreC 0#32 b)
 have h4 : bytes (sealB b) = bytes b ++ bytes (sumB (moreC 0#32 b)) := by simp [sealB,crcB]
 rw [sealB_length,h4,h3]
 generalize moreC 0#32 b = c at *
 clear h3 h4
 refine run_goal (rs:=[.tmp 2]) (ts:=[24]) Tryz.func66 rfl rfl rfl (by kernel_rfl) (by kernel_rfl) (.inl sp_66) (by simp [Tryz.f66]) ?_
 intro T hT
 simp -dsimp -implicitDefEqProofs (disch:=first|omega|assumption) [startSlots,nI,wI,h,h2]
 simpa -dsimp -implicitDefEqProofs (disch:=first|omega|assumption) [nI,wI] using hT
def OpR : Option (List UInt8) → Option (List V × List Obj)
 | none => some ([.arr 0 0,.d (.bool false)],[.arr 1 [] 0])
 | some t => some ([.arr 0 t.length,.d (.bool true)],[.arr 1 (bytes t) t.length])
theorem copen_runs (b : List UInt8) (hb : b.length < 1000000) : R 69 [B b] [] = OpR (openB b) := by
 unfold openB
 by_cases h1 : b.length < 4
 ·have h1' : (b.length : Int) < 4 := by omega
  rw [if_pos h1]
  unfold OpR
  refine run_goal (rs:=[.tmp 2,.tmp 3]) (ts:=[24,4]) Tryz.func69 rfl rfl rfl (by kernel_rfl) (by kernel_rfl) (.inl sp_69) (by simp [Tryz.f69]) ?_
  intro T hT
  simp -dsimp -implicitDefEqProofs (disch:=first|omega|assumption) [startSlots,nI,wI,h1']
  simpa -dsimp -implicitDefEqProofs (disch:=first|omega|assumption) [nI,wI] using hT
 rw [if_neg h1]
 have h1' : ¬ (b.length : Int) < 4 := by omega
 have x1 : ((b.length : Int) - 4).toNat = b.length - 4 := by omega
 have x2 : (4 : Int) ≤ b.length := by omega
 obtain ⟨t,ht⟩ : ∃ t,t = b.take (b.length - 4) := ⟨_,rfl⟩
 have ht' : List.take (b.length - 4) (bytes b) = bytes t := by rw [ht,bytes,bytes,List.map_take]
 have htl : t.length < 1000000000 := by rw [ht,List.length_take]; omega
 have c1 := cloneB_runs t htl
 have c2 := seal_runs t htl
 have c3 := equal_runs (sealB t) b (by rw [sealB_length,ht,List.length_take]; omega)
 rw [← ht]
 clear ht
 by_cases h2 : sealB t = b
 ·rw [if_pos h2]
  rw [decide_eq_true h2] at c3
  unfold OpR
  refine run_goal (rs:=[.tmp 2,.tmp 3]) (ts:=[24,4]) Tryz.func69 rfl rfl rfl (by kernel_rfl) (by kernel_rfl) (.inl sp_69) (by simp [Tryz.f69]) ?_
  intro T hT
  simp -dsimp -implicitDefEqProofs (disch:=first|omega|assumption) [startSlots,nI,wI,h1',x1,x2,ht',c1,c2,c3]
  simpa -dsimp -implicitDefEqProofs (disch:=first|omega|assumption) [nI,wI] using hT
 ·rw [if_neg h2]
  rw [decide_eq_false h2] at c3
  unfold OpR
  refine run_goal (rs:=[.tmp 2,.tmp 3]) (ts:=[24,4]) Tryz.func69 rfl rfl rfl (by kernel_rfl) (by kernel_rfl) (.inl sp_69) (by simp [Tryz.f69]) ?_
  intro T hT
  simp -dsimp -implicitDefEqProofs (disch:=first|omega|assumption) [startSlots,nI,wI,h1',x1,x2,ht',c1,c2,c3]
  simpa -dsimp -implicitDefEqProofs (disch:=first|omega|assumption) [nI,wI] using hT
theorem bit_nat (d : BitVec 32) : (d.toNat % 2 = 0 ∧ (bitS d).toNat = d.toNat / 2) ∨ (d.toNat % 2 = 1 ∧ (bitS d).toNat = d.toNat / 2 ^^^ 3988292384) := by
 have h0 : d.getLsbD 0 = decide (d.toNat % 2 = 1) := by
  rw [BitVec.getLsbD,Nat.testBit_zero]
 unfold bitS
 rw [h0]
 by_cases h : d.toNat % 2 = 1
 ·right
  refine ⟨h, ?_⟩
  rw [decide_eq_true h,if_pos rfl,BitVec.toNat_xor,BitVec.toNat_ushiftRight,Nat.shiftRight_eq_div_pow]
  rfl
 ·left
  refine ⟨by omega, ?_⟩
  rw [decide_eq_false h,if_neg (by simp),BitVec.xor_zero,BitVec.toNat_ushiftRight,Nat.shiftRight_eq_div_pow]
theorem ones_nat (c : BitVec 32) : c.toNat ^^^ 4294967295 = (~~~ c).toNat := by rw [Nat.xor_comm,not_nat]
theorem rmore_runs (c : BitVec 32) (b : List UInt8) (hb : b.length < 1000000000) : R 79 [U32 c,B b] [] = some ([U32 (moreC c b)],[]) := by
 have l1 := lt32' c
 obtain ⟨d0,hd0⟩ : ∃ d,d = ~~~ c := ⟨_,rfl⟩
 have n1 : c.toNat ^^^ 4294967295 = d0.toNat := by rw [hd0]; exact ones_nat c
 have md : moreC c b = ~~~ runC d0 b := by rw [moreC,hd0]
 rw [md]
 clear md hd0
 refine run_goal (rs:=[.tmp 4]) (ts:=[59]) Tryz.func79 rfl rfl rfl (by kernel_rfl) (by kernel_rfl) (.inl sp_79) (by simp [Tryz.f79]) ?_
 intro T hT
 simp -dsimp -implicitDefEqProofs (disch:=first|omega|assumption) [startSlots,nI,wI,n1,l1]
 generalize hz : loopT _ _ _ _ _ _ = z
 revert z
 refine loop_any (σ:=Nat × BitVec 32) (fun x => [(0,U32 x.2),(1,B b),(5,.d (.int .i64 x.1))]) (fun x => []) (fun x => x.1 ≤ b.length ∧ x.2 = runC d0 (b.take x.1)) (fun x => b.length - x.1) (0,d0) ?_ ?_ ?_
 ·exact ⟨Nat.zero_le _,rfl⟩
 ·simp -dsimp -implicitDefEqProofs (disch:=first|omega|assumption) [B]
 intro T' f hT' ⟨i,d⟩ ⟨hi,hd⟩ ih
 simp only at hi hd ih
 have ld := lt32' d
 by_cases h1 : i < b.length
 ·obtain ⟨y,hy⟩ : ∃ y,y = b[i] := ⟨_,rfl⟩
  have gy := hy.symm
  have x1 := xor_byte d y
  have yl : (y.toNat : Int) < 4294967296 := by have := y.toNat_lt; omega
  obtain ⟨e,he⟩ : ∃ e,e = d ^^^ BitVec.ofNat 32 y.toNat := ⟨_,rfl⟩
  rw [← he] at x1
  have fin : byteS d y = bits8 e 8 := by rw [byteS,he]
  simp -dsimp -implicitDefEqProofs (disch:=first|omega|assumption) [nI,wI,h1,gy,x1,yl,ld]
  generalize hz : loopT _ _ _ _ _ _ = z
  revert z
  refine loop_any (σ:=Nat) (fun k => [(0,U32 (bits8 e k)),(1,B b),(5,.d (.int .i64 i)),(6,.d (.int .i64 k))]) (fun k => []) (fun k => k ≤ 8) (fun k => 8 - k) 0 ?_ ?_ ?_
  ·exact Nat.zero_le _
  ·simp -dsimp -implicitDefEqProofs (disch:=first|omega|assumption) [B,bits8]
  intro T2 f2 hT2 k hk ih2
  by_cases h2 : k < 8
  ·have h2' : (k : Int) < 8 := by omega
   obtain ⟨g,hg⟩ : ∃ g,g = bits8 e k := ⟨_,rfl⟩
   have hs : bits8 e (k + 1) = bitS g := by rw [hg]; rfl
   rw [← hg]
   have lg := lt32' g
   have lg2 : (g.toNat : Int) / 2 < 4294967296 := by omega
   rcases bit_nat g with ⟨b1,b2⟩ | ⟨b1,b2⟩
   ·have b1' : ¬ (g.toNat : Int) % 2 = 1 := by omega
    have b3 : ((bitS g).toNat : Int) = (g.toNat : Int) / 2 := by omega
    simp -dsimp -implicitDefEqProofs (disch:=first|omega|assumption) [nI,wI,h2',lg,lg2,b1,b1']
    refine ih2 (k + 1) _ _ h2 (by omega) ?_
    rw [hs]
    simp -dsimp -implicitDefEqProofs (disch:=first|omega|assumption) [B,U32,b3]
   ·have b1' : (g.toNat : Int) % 2 = 1 := by omega
    have b3 := b2.symm
    have t1 : ((g.toNat : Int) / 2).toNat = g.toNat / 2 := by omega
    simp -dsimp -implicitDefEqProofs (disch:=first|omega|assumption) [nI,wI,h2',lg,lg2,b1,b1',b3,t1]
    refine ih2 (k + 1) _ _ h2 (by omega) ?_
    rw [hs]
    simp -dsimp -implicitDefEqProofs (disch:=first|omega|assumption) [B,U32,b3,t1]
  ·obtain rfl : k = 8 := by omega
   subst hT2
   simp -dsimp -implicitDefEqProofs (disch:=first|omega|assumption) [nI,wI]
   refine ih (i + 1,bits8 e 8) _ _ ⟨h1, ?_⟩ (by simp only; omega) (by simp -dsimp -implicitDefEqProofs (disch:=first|omega|assumption) [B])
   simp only
   have hstep : runC d0 (b.take (i + 1)) = byteS (runC d0 (b.take i)) b[i] := by unfold runC; rw [take_snoc h1,List.foldl_append]; rfl
   rw [hstep,← hd,gy,fin]
 ·obtain rfl : i = b.length := by omega
  rw [List.take_length] at hd
  obtain ⟨d9,hd9⟩ : ∃ e,e = ~~~ d := ⟨_,rfl⟩
  have n2 : d.toNat ^^^ 4294967295 = d9.toNat := by rw [hd9]; exact ones_nat d
  have md : ~~~ runC d0 b = d9 := by rw [← hd,hd9]
  rw [md] at hT
  subst hT'
  simp -dsimp -implicitDefEqProofs (disch:=first|omega|assumption) [nI,wI,n2,ld]
  simpa -dsimp -implicitDefEqProofs (disch:=first|omega|assumption) [nI,wI,U32] using hT
theorem rmore0_runs (b : List UInt8) (hb : b.length < 1000000000) : R 79 [.d (.int .u32 0),B b] [] = some ([U32 (moreC 0#32 b)],[]) := rmore_runs 0#32 b hb
theorem rseal_runs (b : List UInt8) (hb : b.length < 1000000000) : R 31 [B b] [] = some ([.arr 0 (sealB b).length],[.arr 1 (bytes (sealB b)) 0]) := by
 have h := rmore0_runs b hb
 have h4 : sealB b = b ++ sumB (moreC 0#32 b) := rfl
 rw [h4]
 generalize moreC 0#32 b = c at *
 have hc := c.isLt
 refine run_goal (rs:=[.tmp 2]) (ts:=[24]) Tryz.func31 rfl rfl rfl (by kernel_rfl) (by kernel_rfl) (.inl sp_31) (by simp [Tryz.f31]) ?_
 intro T hT
 simp -dsimp -implicitDefEqProofs (disch:=first|omega|assumption) [startSlots,nI,wI,h]
 generalize hz : loopT _ _ _ _ _ _ = z
 revert z
 refine loop_any (σ:=Nat) (fun i => [(3,.arr 0 (b.length + i)),(4,.d (.int .u32 ((c.toNat / 256 ^ i : Nat) : Int))),(5,.d (.int .i64 i))]) (fun i => [.arr 1 (bytes (b ++ (sumB c).take i)) 0]) (fun i => i ≤ 4) (fun i => 4 - i) 0 ?_ ?_ ?_
 ·exact Nat.zero_le _
 ·simp -dsimp -implicitDefEqProofs (disch:=first|omega|assumption)
 intro T' f hT' i hi ih
 have hln : ((sumB c).take i).length = i := by rw [List.length_take]; simp [sumB]; omega
 by_cases h1 : i < 4
 ·have h1' : (i : Int) < 4 := by omega
  obtain ⟨s,hs⟩ : ∃ s,s = c.toNat / 256 ^ i := ⟨_,rfl⟩
  have hs32 : s < 4294967296 := by rw [hs]; exact Nat.lt_of_le_of_lt (Nat.div_le_self _ _) hc
  have hs2 : c.toNat / 256 ^ (i + 1) = s / 256 := by rw [hs,Nat.pow_succ,Nat.div_div_eq_div_mul]
  have hs3 : (s : Int) / 256 % 4294967296 = ((s / 256 : Nat) : Int) := by omega
  have htk : (sumB c).take (i + 1) = (sumB c).take i ++ [UInt8.ofNat s] := by
   have : i = 0 ∨ i = 1 ∨ i = 2 ∨ i = 3 := by omega
   rw [hs]
   rcases this with rfl | rfl | rfl | rfl <;> simp [sumB]
  rw [← hs]
  have hmn : min i (sumB c).length = i := by rw [show (sumB c).length = 4 from rfl]; omega
  simp -dsimp -implicitDefEqProofs (disch:=first|omega|assumption) [nI,wI,h1',hln,hs3,hmn]
  refine ih (i + 1) _ _ h1 (by omega) ?_
  rw [htk,hs2]
  simp -dsimp -implicitDefEqProofs (disch:=first|omega|assumption) [hs3,hln,Nat.add_assoc]
 ·obtain rfl : i = 4 := by omega
  have h1' : ¬ ((4 : Nat) : Int) < 4 := by omega
  have hf : (sumB c).take 4 = sumB c := rfl
  rw [hf]
  have hl4 : (sumB c).length = 4 := rfl
  subst hT'
  simp -dsimp -implicitDefEqProofs (disch:=first|omega|assumption) [nI,wI,h1',hl4]
  simpa -dsimp -implicitDefEqProofs (disch:=first|omega|assumption) [nI,wI,hl4] using hT
end Go.Am.Ab
