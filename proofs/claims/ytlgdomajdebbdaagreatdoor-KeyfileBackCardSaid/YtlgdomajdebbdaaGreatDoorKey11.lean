/- The statements on files of keys: those that are turned; what is written. -/
import Derived.Test.YtlgdomajdebbdaaGreatDoorKeyC
set_option linter.all false
namespace Go.Am.Ab
open Go.Proofs
set_option maxHeartbeats 8000000
set_option maxRecDepth 4000
theorem keys_write {k : Nat} (hk : k = 1 ∨ k = 3) {l : List Cel} (hl : ∀ c ∈ l,c.kind < 256 ∧ isI64 c.n) :
  R 15 [.d (.int .u8 k),.d (.list (vs ((keysC k l).map valOf)))] [] = some ([.arr 0 (keyF k (uniV ((keysC k l).map valOf))).length,E 0],[.arr 1 (bytes (keyF k (uniV ((keysC k l).map valOf)))) 0]) ∧ (keyF k (uniV ((keysC k l).map valOf))).length < 1000000 := by
 obtain ⟨g,hall,hb,hx⟩ := keysC_vals hk hl
 have h := kwrite_any k (by omega) _ g hx
 rw [if_pos (uniV_all.2 ⟨hk,hall⟩)] at h
 refine ⟨h, ?_⟩
 have hul := uniV_length ((keysC k l).map valOf)
 have h5 := colB_len (by omega) (uniV_good g) (by omega)
 have h6 := keyT_len (k := k) (n := (uniV ((keysC k l).map valOf)).length) (c := colB k (uniV ((keysC k l).map valOf))) (by omega) (by omega) h5
 unfold keyF
 rw [sealB_length]; omega
theorem keysC_small {k : Nat} {l : List Cel} (hl : ∀ c ∈ l,c.kind < 256 ∧ isI64 c.n) : ∀ c ∈ keysC k l,c.kind < 256 ∧ c.s.size ≤ 9223372036854775807 := fun c hc => by
 obtain ⟨a1,a2,a3,a4,a5⟩ := chk_kind (keysC_is hl c hc).1
 exact ⟨by omega,by omega⟩
theorem keyfileTurned_runs (t : Bool) (l : List Cel) (hl : ∀ c ∈ l,c.kind < 256 ∧ isI64 c.n ∧ c.s.size ≤ 9223372036854775807) (hn : l.length ≤ 9223372036854775807) (at0 : Int) (hat : isI64 at0) (y : UInt8) :
  R 4 [.d (.bool t),.d (.list (ce l)),.d (.int .i64 at0),.d (.int .u8 y.toNat)] [] = some ([.d (.bool true)],[]) := by
 have al := alive11
 have hl1 : ∀ c ∈ l,c.kind < 256 ∧ isI64 c.n := fun c hc => ⟨(hl c hc).1,(hl c hc).2.1⟩
 have hl2 : ∀ c ∈ l,c.kind < 256 ∧ c.s.size ≤ 9223372036854775807 := fun c hc => ⟨(hl c hc).1,(hl c hc).2.2⟩
 have onil : R 20 [.d (.list [])] [] = some ([.d .nilP,.d (.int .i64 101)],[]) := kopen_runs [] (by decide)
 obtain ⟨k,hk,hks⟩ : ∃ k : Nat,(k = 1 ∨ k = 3) ∧ R 19 [.d (.bool t),.d (.list (ce l))] [] = some ([.d (.int .u8 k),.arr 0 (keysC k l).length],[.arr 3 (ce (keysC k l)) 0]) := by
  cases t with
  | false => exact ⟨1,.inl rfl,keys1_runs l hl2 hn⟩
  | true => exact ⟨3,.inr rfl,keys3_runs l hl2 hn⟩
 have hr := row_runs (keysC k l) (keysC_small hl1) (by have := keysC_length k l; omega)
 obtain ⟨hw,hwl⟩ := keys_write hk hl1
 obtain ⟨b,hb⟩ : ∃ b,b = keyF k (uniV ((keysC k l).map valOf)) := ⟨_,rfl⟩
 have hturn : ∀ i x,(h : i < b.length) → x ≠ b[i] → openK (b.set i x) = .inl 101 := fun i x h hx => by
  subst hb
  exact keyF_turned _ _ i x h hx
 rw [← hb] at hw hwl
 obtain ⟨x,hx⟩ : ∃ x,x = keysC k l := ⟨_,rfl⟩
 rw [← hx] at hks hr hw
 obtain ⟨vl,hvl⟩ : ∃ vl,vl = vs (x.map valOf) := ⟨_,rfl⟩
 have hvll : vl.length = x.length := by rw [hvl]; simp
 rw [← hvl] at hr hw
 clear hb hx hvl
 by_cases c1 : 0 ≤ at0
 case neg =>
  refine run_goal (rs:=[.tmp 8]) (ts:=[4]) Tryz.func4 rfl rfl rfl (by kernel_rfl) (by kernel_rfl) (.inl sp_4) (by simp [Tryz.f4]) ?_
  intro T hT
  simp -dsimp -implicitDefEqProofs (disch:=first|omega|assumption) [startSlots,nI,wI,al,hks,hr,hw,hvll,onil,c1]
  simpa -dsimp -implicitDefEqProofs (disch:=first|omega|assumption) [nI,wI] using hT
 by_cases c2 : at0 < b.length
 case neg =>
  refine run_goal (rs:=[.tmp 8]) (ts:=[4]) Tryz.func4 rfl rfl rfl (by kernel_rfl) (by kernel_rfl) (.inl sp_4) (by simp [Tryz.f4]) ?_
  intro T hT
  simp -dsimp -implicitDefEqProofs (disch:=first|omega|assumption) [startSlots,nI,wI,al,hks,hr,hw,hvll,onil,c1,c2]
  simpa -dsimp -implicitDefEqProofs (disch:=first|omega|assumption) [nI,wI] using hT
 by_cases c3 : y.toNat = 0
 ·have c3' : (y.toNat : Int) = 0 := by omega
  refine run_goal (rs:=[.tmp 8]) (ts:=[4]) Tryz.func4 rfl rfl rfl (by kernel_rfl) (by kernel_rfl) (.inl sp_4) (by simp [Tryz.f4]) ?_
  intro T hT
  simp -dsimp -implicitDefEqProofs (disch:=first|omega|assumption) [startSlots,nI,wI,al,hks,hr,hw,hvll,onil,c1,c2,c3,c3']
  simpa -dsimp -implicitDefEqProofs (disch:=first|omega|assumption) [nI,wI] using hT
 have c3' : ¬ (y.toNat : Int) = 0 := by omega
 obtain ⟨m,rfl⟩ : ∃ m : Nat,at0 = m := ⟨at0.toNat,by omega⟩
 have hm : m < b.length := by omega
 obtain ⟨z,hz⟩ : ∃ z,z = b[m] ^^^ y := ⟨_,rfl⟩
 have hx8 : intBin .xor .u8 (b[m].toNat : Int) (y.toNat : Int) = some (.int .u8 ((z.toNat : Nat) : Int)) := by rw [hz]; exact xor_u8 _ _
 have ho := kopen_runs (b.set m z) (by rw [List.length_set]; exact hwl)
 rw [hturn m z hm (by rw [hz]; exact xor_ne c3)] at ho
 unfold KoR at ho
 obtain ⟨c,hc⟩ : ∃ c,c = b.set m z := ⟨_,rfl⟩
 have hset : (List.map byteD b).set m (.int .u8 z.toNat) = List.map byteD c := by rw [hc,List.map_set]; simp
 have hcl : c.length = b.length := by rw [hc,List.length_set]
 rw [← hc] at ho
 refine run_goal (rs:=[.tmp 8]) (ts:=[4]) Tryz.func4 rfl rfl rfl (by kernel_rfl) (by kernel_rfl) (.inl sp_4) (by simp [Tryz.f4]) ?_
 intro T hT
 simp -dsimp -implicitDefEqProofs (disch:=first|omega|assumption) [startSlots,nI,wI,al,hks,hr,hw,hvll,onil,c1,c2,c3,c3',hm,hx8,hset,ho,hcl,-List.map_set]
 simpa -dsimp -implicitDefEqProofs (disch:=first|omega|assumption) [nI,wI,E] using hT
end Go.Am.Ab
